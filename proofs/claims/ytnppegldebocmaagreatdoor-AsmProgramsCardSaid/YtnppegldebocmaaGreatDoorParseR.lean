/- The plain law of reading, third part: an operand read of a piece is one read of its place; the program's answer to a line is the document's. No program in sight. Conditions: as each theorem states. -/
import Derived.Test.YtnppegldebocmaaGreatDoorParseQ
namespace Go.Proofs.YtnppegldebocmaaGreatDoor
open Go.RowKit
set_option linter.unusedVariables false
def regB (p : List UInt8) : Int × Nat :=
  if p.head? = some 36 then
    match numB (p.drop 1) with
    | none => (0, 1)
    | some n => if n < 0 then (0, 1) else if 31 < n then (0, 2) else (n, 0)
  else (0, 1)
def scanReg (r : List UInt8) : Option (Int × List UInt8) :=
  if r.head? = some 36 then
    match scanNum (r.drop 1) with
    | none => none
    | some (n, u) => if n < 0 then none else some (n, u)
  else none
def bndL (c : UInt8) : Int × Int := if c = 97 then (0, 31) else if c = 117 then (0, 65535) else if c = 106 then (0, 67108863) else (-32768, 32767)
def immOf (c : UInt8) (n : Int) : Int := if c = 110 ∨ c = 109 then n % 65536 else n % 4294967296
def layB (i : InsN) (c : UInt8) (s : List UInt8) : InsN × Nat :=
  match numB s with
  | none => (i, 1)
  | some n => if n < (bndL c).1 ∨ (bndL c).2 < n then (⟨i.op, i.s, i.t, i.d, 0⟩, 2) else (⟨i.op, i.s, i.t, i.d, immOf c n⟩, 0)
def addrB (i : InsN) (s : List UInt8) : InsN × Nat :=
  if (cutC 40 s).2.2 = true ∧ Lib.hasSuffix (cutC 40 s).2.1 [41] = true then
    match numB (cutC 40 s).1 with
    | none => (i, 1)
    | some n =>
      if (regB (Lib.trimSuffix (cutC 40 s).2.1 [41])).2 = 1 then (i, 1)
      else if (layB i 109 (cutC 40 s).1).2 ≠ 0 then layB i 109 (cutC 40 s).1
      else (⟨(layB i 109 (cutC 40 s).1).1.op, (regB (Lib.trimSuffix (cutC 40 s).2.1 [41])).1, (layB i 109 (cutC 40 s).1).1.t, (layB i 109 (cutC 40 s).1).1.d, (layB i 109 (cutC 40 s).1).1.imm⟩, (regB (Lib.trimSuffix (cutC 40 s).2.1 [41])).2)
  else (i, 1)
def readB (i : InsN) (c : UInt8) (s : List UInt8) : InsN × Nat :=
  if c = 83 then (⟨i.op, (regB s).1, i.t, i.d, i.imm⟩, (regB s).2)
  else if c = 84 then (⟨i.op, i.s, (regB s).1, i.d, i.imm⟩, (regB s).2)
  else if c = 68 then (⟨i.op, i.s, i.t, (regB s).1, i.imm⟩, (regB s).2)
  else if c = 109 then addrB i s
  else layB i c s
def opScan (i : InsN) (c : UInt8) (r : List UInt8) : Option (InsN × Bool × List UInt8) :=
  if c = 83 then (scanReg r).map fun x => (⟨i.op, x.1, i.t, i.d, i.imm⟩, decide (31 < x.1), x.2)
  else if c = 84 then (scanReg r).map fun x => (⟨i.op, i.s, x.1, i.d, i.imm⟩, decide (31 < x.1), x.2)
  else if c = 68 then (scanReg r).map fun x => (⟨i.op, i.s, i.t, x.1, i.imm⟩, decide (31 < x.1), x.2)
  else if c = 109 then
    match scanNum r with
    | none => none
    | some (n, u) =>
      if u.head? = some 40 then
        match scanReg (u.drop 1) with
        | none => none
        | some (k, w) => if w.head? = some 41 then some (⟨i.op, k, i.t, i.d, n % 65536⟩, (decide (n < -32768) || decide (32767 < n)) || decide (31 < k), w.drop 1) else none
      else none
  else (scanNum r).map fun x => (⟨i.op, i.s, i.t, i.d, immOf c x.1⟩, decide (x.1 < (bndL c).1) || decide ((bndL c).2 < x.1), x.2)
theorem head_cons {l : List UInt8} {c : UInt8} (h : l.head? = some c) : l = c :: l.drop 1 := by
  cases l with
  | nil => cases h
  | cons x t => simp at h; subst h; rfl
theorem nd_44 : isDig 44 = false := by decide
theorem nd_40 : isDig 40 = false := by decide
theorem nd_41 : isDig 41 = false := by decide
theorem tail_nd {t : List UInt8} (h : t = [] ∨ t.head? = some 44) : t = [] ∨ ∃ c u, t = c :: u ∧ isDig c = false := by
  rcases h with h | h
  · exact Or.inl h
  · exact Or.inr ⟨44, t.drop 1, head_cons h, nd_44⟩
theorem not_in {q : List UInt8} {c : UInt8} (h : ∀ x ∈ q, x = 45 ∨ isDig x = true) (h1 : c ≠ 45) (h2 : isDig c = false) : c ∉ q := by
  intro hc
  rcases h c hc with e | e
  · exact h1 e
  · rw [h2] at e; cases e
theorem cutC_free (c : UInt8) : ∀ (a b : List UInt8), c ∉ a → cutC c (a ++ c :: b) = (a, b, true)
  | [], b, _ => by simp [cutC]
  | x :: a, b, h => by
    have hx : x ≠ c := fun e => h (by rw [e]; exact List.mem_cons_self)
    have := cutC_free c a b fun hc => h (List.mem_cons_of_mem _ hc)
    simp only [List.cons_append, cutC, if_neg hx, this]
theorem cutC_true (c : UInt8) : ∀ (s : List UInt8), (cutC c s).2.2 = true → s = (cutC c s).1 ++ c :: (cutC c s).2.1
  | [], h => by simp [cutC] at h
  | x :: t, h => by
    unfold cutC at h ⊢
    by_cases e : x = c
    · subst e; simp
    · rw [if_neg e] at h ⊢
      have := cutC_true c t h
      simp only [List.cons_append]
      rw [← this]
theorem suf_one (d : List UInt8) (c : UInt8) : Lib.hasSuffix (d ++ [c]) [c] = true ∧ Lib.trimSuffix (d ++ [c]) [c] = d := by
  have h : Lib.hasSuffix (d ++ [c]) [c] = true := by
    unfold Lib.hasSuffix
    rw [List.isSuffixOf_iff_suffix]
    exact List.suffix_append _ _
  refine ⟨h, ?_⟩
  unfold Lib.trimSuffix
  rw [if_pos h]
  simp
theorem of_suf {b : List UInt8} {c : UInt8} (h : Lib.hasSuffix b [c] = true) : b = Lib.trimSuffix b [c] ++ [c] := by
  unfold Lib.trimSuffix
  rw [if_pos h]
  unfold Lib.hasSuffix at h
  rw [List.isSuffixOf_iff_suffix] at h
  obtain ⟨d, rfl⟩ := h
  simp
/-- A register's piece. -/
theorem reg_scan {r u : List UInt8} {n : Int} (h : scanReg r = some (n, u)) : ∃ q, r = q ++ u ∧ (44 : UInt8) ∉ q ∧ (40 : UInt8) ∉ q ∧ regB q = (if 31 < n then (0, 2) else (n, 0)) := by
  unfold scanReg at h
  by_cases hr : r.head? = some 36
  · rw [if_pos hr] at h
    cases hs : scanNum (r.drop 1) with
    | none => rw [hs] at h; cases h
    | some x =>
      obtain ⟨n', u'⟩ := x
      rw [hs] at h
      simp only at h
      by_cases h0 : n' < 0
      · rw [if_pos h0] at h; cases h
      · rw [if_neg h0, Option.some.injEq, Prod.mk.injEq] at h
        obtain ⟨rfl, rfl⟩ := h
        obtain ⟨q, e1, e2, e3, e4⟩ := num_scan hs
        refine ⟨36 :: q, ?_, ?_, ?_, ?_⟩
        · rw [head_cons hr, e1]; rfl
        · intro hc
          rcases List.mem_cons.1 hc with e | e
          · exact absurd e (by decide)
          · exact not_in e4 (by decide) nd_44 e
        · intro hc
          rcases List.mem_cons.1 hc with e | e
          · exact absurd e (by decide)
          · exact not_in e4 (by decide) nd_40 e
        · unfold regB
          rw [if_pos (show (36 :: q).head? = some 36 from rfl), show List.drop 1 (36 :: q) = q from rfl, e2]
          simp only
          rw [if_neg h0]
  · rw [if_neg hr] at h; cases h
theorem scan_reg {q : List UInt8} (h : (regB q).2 ≠ 1) (t : List UInt8) (ht : t = [] ∨ ∃ c u, t = c :: u ∧ isDig c = false) : ∃ n, scanReg (q ++ t) = some (n, t) := by
  unfold regB at h
  by_cases hr : q.head? = some 36
  · rw [if_pos hr] at h
    cases hs : numB (q.drop 1) with
    | none => rw [hs] at h; exact absurd rfl h
    | some n =>
      rw [hs] at h
      simp only at h
      by_cases h0 : n < 0
      · rw [if_pos h0] at h; exact absurd rfl h
      · refine ⟨n, ?_⟩
        have e := head_cons hr
        unfold scanReg
        rw [e, if_pos (show (36 :: List.drop 1 q ++ t).head? = some 36 from rfl), show List.drop 1 (36 :: List.drop 1 q ++ t) = List.drop 1 q ++ t from rfl, scan_num hs ht]
        simp only
        rw [if_neg h0]
  · rw [if_neg hr] at h; exact absurd rfl h
theorem lay_scan {i : InsN} {c : UInt8} {r u : List UInt8} {n : Int} (h : scanNum r = some (n, u)) : ∃ q, r = q ++ u ∧ (∀ x ∈ q, x = 45 ∨ isDig x = true) ∧ numB q = some n ∧ layB i c q = (if n < (bndL c).1 ∨ (bndL c).2 < n then (⟨i.op, i.s, i.t, i.d, 0⟩, 2) else (⟨i.op, i.s, i.t, i.d, immOf c n⟩, 0)) := by
  obtain ⟨q, e1, e2, e3, e4⟩ := num_scan h
  refine ⟨q, e1, e4, e2, ?_⟩
  unfold layB
  rw [e2]
theorem reg_code (n : Int) : (if 31 < n then ((0 : Int), 2) else (n, 0)).2 = if decide (31 < n) = true then 2 else 0 := by
  by_cases h : 31 < n
  · simp [h]
  · simp [h]
theorem op_reg (n : Int) (h : decide (31 < n) = false) : (if 31 < n then ((0 : Int), 2) else (n, 0)).1 = n := by
  rw [if_neg (of_decide_eq_false h)]
/-- What is read of a place is read of its piece. -/
theorem tok_one (i : InsN) (c : UInt8) (r rest : List UInt8) (x : InsN) (far : Bool) (h : opScan i c r = some (x, far, rest)) :
    ∃ q, r = q ++ rest ∧ (44 : UInt8) ∉ q ∧ (readB i c q).2 = (if far = true then 2 else 0) ∧ (far = false → (readB i c q).1 = x) := by
  unfold opScan at h
  unfold readB
  by_cases c1 : c = 83
  · rw [if_pos c1] at h
    simp only [if_pos c1]
    obtain ⟨⟨n, u⟩, hs, he⟩ := Option.map_eq_some_iff.1 h
    simp only [Prod.mk.injEq] at he
    obtain ⟨rfl, rfl, rfl⟩ := he
    obtain ⟨q, e1, e2, _, e4⟩ := reg_scan hs
    exact ⟨q, e1, e2, by rw [e4]; exact reg_code n, fun hf => by rw [e4, op_reg n hf]⟩
  rw [if_neg c1] at h
  simp only [if_neg c1]
  by_cases c2 : c = 84
  · rw [if_pos c2] at h
    simp only [if_pos c2]
    obtain ⟨⟨n, u⟩, hs, he⟩ := Option.map_eq_some_iff.1 h
    simp only [Prod.mk.injEq] at he
    obtain ⟨rfl, rfl, rfl⟩ := he
    obtain ⟨q, e1, e2, _, e4⟩ := reg_scan hs
    exact ⟨q, e1, e2, by rw [e4]; exact reg_code n, fun hf => by rw [e4, op_reg n hf]⟩
  rw [if_neg c2] at h
  simp only [if_neg c2]
  by_cases c3 : c = 68
  · rw [if_pos c3] at h
    simp only [if_pos c3]
    obtain ⟨⟨n, u⟩, hs, he⟩ := Option.map_eq_some_iff.1 h
    simp only [Prod.mk.injEq] at he
    obtain ⟨rfl, rfl, rfl⟩ := he
    obtain ⟨q, e1, e2, _, e4⟩ := reg_scan hs
    exact ⟨q, e1, e2, by rw [e4]; exact reg_code n, fun hf => by rw [e4, op_reg n hf]⟩
  rw [if_neg c3] at h
  simp only [if_neg c3]
  by_cases c4 : c = 109
  · rw [if_pos c4] at h
    simp only [if_pos c4]
    cases hs : scanNum r with
    | none => rw [hs] at h; cases h
    | some y =>
      obtain ⟨n, u⟩ := y
      rw [hs] at h
      simp only at h
      by_cases hu : u.head? = some 40
      · rw [if_pos hu] at h
        cases hg : scanReg (u.drop 1) with
        | none => rw [hg] at h; cases h
        | some y =>
          obtain ⟨k, w⟩ := y
          rw [hg] at h
          simp only at h
          by_cases hw : w.head? = some 41
          · rw [if_pos hw, Option.some.injEq, Prod.mk.injEq, Prod.mk.injEq] at h
            obtain ⟨rfl, rfl, rfl⟩ := h
            obtain ⟨q1, a1, a2, a3, a4⟩ := lay_scan (i := i) (c := 109) hs
            obtain ⟨q2, b1, b2, b3, b4⟩ := reg_scan hg
            have hq : q1 ++ 40 :: (q2 ++ [41]) ++ w.drop 1 = r := by
              rw [a1, head_cons hu, b1, List.append_assoc, List.cons_append, List.append_assoc]
              congr 2
              rw [List.singleton_append, ← head_cons hw]
            refine ⟨q1 ++ 40 :: (q2 ++ [41]), hq.symm, ?_, ?_⟩
            · intro hc
              rcases List.mem_append.1 hc with e | e
              · exact not_in a2 (by decide) nd_44 e
              · rcases List.mem_cons.1 e with e | e
                · exact absurd e (by decide)
                · rcases List.mem_append.1 e with e | e
                  · exact b2 e
                  · exact absurd (List.mem_singleton.1 e) (by decide)
            · obtain ⟨s1, s2⟩ := suf_one q2 41
              unfold addrB
              rw [cutC_free 40 q1 (q2 ++ [41]) (not_in a2 (by decide) nd_40)]
              simp only [s1, s2, and_self, if_true, a3, a4, b4]
              have hb : bndL 109 = (-32768, 32767) := by decide
              rw [hb]
              simp only
              by_cases h1 : n < -32768 ∨ 32767 < n
              · have hd : (decide (n < -32768) || decide (32767 < n)) = true := by simpa using h1
                rw [if_pos h1, hd]
                by_cases h3 : 31 < k
                · simp [h3]
                · simp [h3]
              · have hd : (decide (n < -32768) || decide (32767 < n)) = false := by
                  rw [Bool.or_eq_false_iff]
                  exact ⟨decide_eq_false fun e => h1 (Or.inl e), decide_eq_false fun e => h1 (Or.inr e)⟩
                rw [if_neg h1, hd]
                have hi : immOf 109 n = n % 65536 := by unfold immOf; rw [if_pos (Or.inr rfl)]
                by_cases h3 : 31 < k
                · simp [h3]
                · simp [h3, hi]
          · rw [if_neg hw] at h; cases h
      · rw [if_neg hu] at h; cases h
  rw [if_neg c4] at h
  simp only [if_neg c4]
  obtain ⟨⟨n, u⟩, hs, he⟩ := Option.map_eq_some_iff.1 h
  simp only [Prod.mk.injEq] at he
  obtain ⟨rfl, rfl, rfl⟩ := he
  obtain ⟨q, e1, e2, _, e4⟩ := lay_scan (i := i) (c := c) hs
  refine ⟨q, e1, not_in e2 (by decide) nd_44, ?_⟩
  rw [e4]
  by_cases h1 : n < (bndL c).1 ∨ (bndL c).2 < n
  · have hd : (decide (n < (bndL c).1) || decide ((bndL c).2 < n)) = true := by simpa using h1
    rw [if_pos h1, hd]
    exact ⟨rfl, fun e => by cases e⟩
  · have hd : (decide (n < (bndL c).1) || decide ((bndL c).2 < n)) = false := by
      rw [Bool.or_eq_false_iff]
      exact ⟨decide_eq_false fun e => h1 (Or.inl e), decide_eq_false fun e => h1 (Or.inr e)⟩
    rw [if_neg h1, hd]
    exact ⟨rfl, fun _ => rfl⟩
/-- A piece that is read is read of its place. -/
theorem tok_two (i : InsN) (c : UInt8) (q t : List UInt8) (h : (readB i c q).2 ≠ 1) (ht : t = [] ∨ t.head? = some 44) : ∃ x far, opScan i c (q ++ t) = some (x, far, t) := by
  have ht2 := tail_nd ht
  unfold readB at h
  unfold opScan
  by_cases c1 : c = 83
  · simp only [if_pos c1] at h ⊢
    obtain ⟨n, hn⟩ := scan_reg h t ht2
    exact ⟨_, _, by rw [hn]; rfl⟩
  simp only [if_neg c1] at h ⊢
  by_cases c2 : c = 84
  · simp only [if_pos c2] at h ⊢
    obtain ⟨n, hn⟩ := scan_reg h t ht2
    exact ⟨_, _, by rw [hn]; rfl⟩
  simp only [if_neg c2] at h ⊢
  by_cases c3 : c = 68
  · simp only [if_pos c3] at h ⊢
    obtain ⟨n, hn⟩ := scan_reg h t ht2
    exact ⟨_, _, by rw [hn]; rfl⟩
  simp only [if_neg c3] at h ⊢
  by_cases c4 : c = 109
  · simp only [if_pos c4] at h ⊢
    unfold addrB at h
    by_cases h1 : (cutC 40 q).2.2 = true ∧ Lib.hasSuffix (cutC 40 q).2.1 [41] = true
    · rw [if_pos h1] at h
      have e1 := cutC_true 40 q h1.1
      have e2 := of_suf h1.2
      cases hs : numB (cutC 40 q).1 with
      | none => rw [hs] at h; exact absurd rfl h
      | some n =>
        rw [hs] at h
        simp only at h
        by_cases h2 : (regB (Lib.trimSuffix (cutC 40 q).2.1 [41])).2 = 1
        · rw [if_pos h2] at h; exact absurd rfl h
        · generalize Lib.trimSuffix (cutC 40 q).2.1 [41] = d at *
          generalize (cutC 40 q).1 = a at *
          generalize (cutC 40 q).2.1 = b at *
          have e3 : q ++ t = a ++ 40 :: (d ++ 41 :: t) := by rw [e1, e2]; simp
          obtain ⟨k, hk⟩ := scan_reg h2 (41 :: t) (Or.inr ⟨41, t, rfl, nd_41⟩)
          have hsn := scan_num hs (t := 40 :: (d ++ 41 :: t)) (Or.inr ⟨40, _, rfl, nd_40⟩)
          refine ⟨⟨i.op, k, i.t, i.d, n % 65536⟩, (decide (n < -32768) || decide (32767 < n)) || decide (31 < k), ?_⟩
          rw [e3, hsn]
          simp only [List.head?_cons, if_true, List.drop_one, List.tail_cons, hk]
    · rw [if_neg h1] at h; exact absurd rfl h
  simp only [if_neg c4] at h ⊢
  unfold layB at h
  cases hs : numB q with
  | none => rw [hs] at h; exact absurd rfl h
  | some n =>
    rw [scan_num hs ht2]
    exact ⟨_, _, rfl⟩
end Go.Proofs.YtnppegldebocmaaGreatDoor
