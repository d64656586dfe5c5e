/- The plain law of reading, fourth part: the program's answer to a line is the document's; an instruction's text is read as it; a text that is read is its instruction's. No program in sight. Conditions: as each theorem states. -/
import Derived.Test.YtnppegldebocmaaGreatDoorParseR
namespace Go.Proofs.YtnppegldebocmaaGreatDoor
open Go.RowKit
set_option linter.unusedVariables false
abbrev insZ : InsN := ⟨0, 0, 0, 0, 0⟩
def nameN (l : List UInt8) : Nat := ((List.range 54).find? fun k => decide (1 ≤ k) && nameB k == l).getD 0
def loopB : List UInt8 → List (List UInt8) → InsN → Nat → InsN × Nat
  | [], _, i, e => if e = 0 then (i, 0) else (insZ, e)
  | _ :: _, [], _, _ => (insZ, 1)
  | c :: o, p :: ps, i, e => if (readB i c p).2 = 1 then (insZ, 1) else loopB o ps (readB i c p).1 (if e = 0 then (readB i c p).2 else e)
def piecesB (s : List UInt8) : List (List UInt8) := if (cutC 32 s).2.2 = true then split2 (cutC 32 s).2.1 else []
def parseB (s : List UInt8) : InsN × Nat :=
  if nameN (cutC 32 s).1 = 0 then (insZ, 5)
  else if (piecesB s).length ≠ (orderB (nameN (cutC 32 s).1)).length then (insZ, 1)
  else loopB (orderB (nameN (cutC 32 s).1)) (piecesB s) ⟨(nameN (cutC 32 s).1 : Int), 0, 0, 0, 0⟩ 0
def refOps (first : Bool) : List UInt8 → InsN → Bool → List UInt8 → InsN × Nat
  | [], i, far, r => if r = [] then (if far = true then (insZ, 2) else (i, 0)) else (insZ, 1)
  | c :: o, i, far, r =>
    if (if first = true then [32] else [44, 32] : List UInt8).isPrefixOf r = true then
      match opScan i c (r.drop (if first = true then [32] else [44, 32] : List UInt8).length) with
      | none => (insZ, 1)
      | some (x, f, u) => refOps false o x (far || f) u
    else (insZ, 1)
def nameOf (s : List UInt8) : List UInt8 := s.takeWhile fun c => c != 32
def refB (s : List UInt8) : InsN × Nat :=
  if nameN (nameOf s) = 0 then (insZ, 5)
  else refOps true (orderB (nameN (nameOf s))) ⟨(nameN (nameOf s) : Int), 0, 0, 0, 0⟩ false (s.drop (nameOf s).length)
theorem cut_name : ∀ s, (cutC 32 s).1 = nameOf s ∧ s.drop (nameOf s).length = (if (cutC 32 s).2.2 = true then 32 :: (cutC 32 s).2.1 else []) ∧ ((cutC 32 s).2.2 = false → (cutC 32 s).2.1 = [])
  | [] => by simp [cutC, nameOf]
  | x :: t => by
    obtain ⟨h1, h2, h3⟩ := cut_name t
    by_cases e : x = 32
    · subst e
      simp [cutC, nameOf]
    · have hb : (x != 32) = true := by simpa using e
      unfold cutC
      rw [if_neg e]
      have hn : nameOf (x :: t) = x :: nameOf t := by unfold nameOf; simp [List.takeWhile, hb]
      rw [hn]
      refine ⟨by rw [h1], ?_, h3⟩
      simpa using h2
theorem split2_tok : ∀ (q t : List UInt8), (44 : UInt8) ∉ q → (t = [] → split2 (q ++ t) = [q]) ∧ (∀ r, t = 44 :: 32 :: r → split2 (q ++ t) = q :: split2 r)
  | [], t, _ => by
    refine ⟨?_, ?_⟩
    · rintro rfl; simp [split2]
    · rintro r rfl
      rw [List.nil_append, split2, if_pos ⟨rfl, rfl⟩]
      rfl
  | x :: q, t, h => by
    have hx : x ≠ 44 := fun e => h (by rw [e]; exact List.mem_cons_self)
    obtain ⟨i1, i2⟩ := split2_tok q t fun hc => h (List.mem_cons_of_mem _ hc)
    refine ⟨fun ht => ?_, fun r ht => ?_⟩
    · rw [List.cons_append, split2, if_neg (fun e => hx e.1), i1 ht]
    · rw [List.cons_append, split2, if_neg (fun e => hx e.1), i2 r ht]
theorem read_code (i j : InsN) (c : UInt8) (q : List UInt8) : (readB i c q).2 = (readB j c q).2 := by
  have hl : ∀ c q, (layB i c q).2 = (layB j c q).2 := by
    intro c q
    unfold layB
    cases numB q with
    | none => rfl
    | some n => simp only; split <;> rfl
  unfold readB
  by_cases c1 : c = 83
  · simp only [if_pos c1]
  by_cases c2 : c = 84
  · simp only [if_neg c1, if_pos c2]
  by_cases c3 : c = 68
  · simp only [if_neg c1, if_neg c2, if_pos c3]
  by_cases c4 : c = 109
  · simp only [if_neg c1, if_neg c2, if_neg c3, if_pos c4]
    unfold addrB
    split
    · cases numB (cutC 40 q).1 with
      | none => rfl
      | some n =>
        simp only
        split
        · rfl
        · rw [hl 109 (cutC 40 q).1]
          split
          · exact hl _ _
          · rfl
    · rfl
  · simp only [if_neg c1, if_neg c2, if_neg c3, if_neg c4]
    exact hl c q
theorem scan_code (i j : InsN) (c : UInt8) (r : List UInt8) {x : InsN} {far : Bool} {u : List UInt8} (h : opScan i c r = some (x, far, u)) : ∃ y, opScan j c r = some (y, far, u) := by
  unfold opScan at h ⊢
  by_cases c1 : c = 83
  · simp only [if_pos c1] at h ⊢
    obtain ⟨a, hs, he⟩ := Option.map_eq_some_iff.1 h
    simp only [Prod.mk.injEq] at he
    exact ⟨_, by rw [hs, ← he.2.1, ← he.2.2]; rfl⟩
  by_cases c2 : c = 84
  · simp only [if_neg c1, if_pos c2] at h ⊢
    obtain ⟨a, hs, he⟩ := Option.map_eq_some_iff.1 h
    simp only [Prod.mk.injEq] at he
    exact ⟨_, by rw [hs, ← he.2.1, ← he.2.2]; rfl⟩
  by_cases c3 : c = 68
  · simp only [if_neg c1, if_neg c2, if_pos c3] at h ⊢
    obtain ⟨a, hs, he⟩ := Option.map_eq_some_iff.1 h
    simp only [Prod.mk.injEq] at he
    exact ⟨_, by rw [hs, ← he.2.1, ← he.2.2]; rfl⟩
  by_cases c4 : c = 109
  · simp only [if_neg c1, if_neg c2, if_neg c3, if_pos c4] at h ⊢
    cases hs : scanNum r with
    | none => rw [hs] at h; cases h
    | some a =>
      rw [hs] at h
      simp only at h ⊢
      split at h
      · rename_i h1
        rw [if_pos h1]
        cases hg : scanReg (a.2.drop 1) with
        | none => rw [hg] at h; cases h
        | some b =>
          rw [hg] at h
          simp only at h ⊢
          split at h
          · rename_i h2
            rw [if_pos h2]
            simp only [Option.some.injEq, Prod.mk.injEq] at h
            exact ⟨_, by rw [← h.2.1, ← h.2.2]⟩
          · cases h
      · cases h
  · simp only [if_neg c1, if_neg c2, if_neg c3, if_neg c4] at h ⊢
    obtain ⟨a, hs, he⟩ := Option.map_eq_some_iff.1 h
    simp only [Prod.mk.injEq] at he
    exact ⟨_, by rw [hs, ← he.2.1, ← he.2.2]; rfl⟩
theorem refOps_sep (c : UInt8) (o : List UInt8) (i : InsN) (far : Bool) (r : List UInt8) : refOps false (c :: o) i far (44 :: 32 :: r) = (match opScan i c r with | none => (insZ, 1) | some (x, f, u) => refOps false o x (far || f) u) := by
  simp [refOps]
theorem refOps_not (c : UInt8) (o : List UInt8) (i : InsN) (far : Bool) (r : List UInt8) (h : ¬ ([44, 32] : List UInt8).isPrefixOf r = true) : refOps false (c :: o) i far r = (insZ, 1) := by
  rw [refOps]
  exact if_neg h
/-- The operands, from one on: the program's answer and the document's. -/
theorem ops_one : ∀ (o : List UInt8) (c : UInt8) (i j : InsN) (e : Nat) (far : Bool) (r : List UInt8), e = (if far = true then 2 else 0) → (far = false → i = j) →
    (if (split2 r).length ≠ (c :: o).length then (insZ, 1) else loopB (c :: o) (split2 r) i e) = (match opScan j c r with | none => (insZ, 1) | some (x, f, u) => refOps false o x (far || f) u)
  | o, c, i, j, e, far, r, he, hij => by
    rcases split2_first r.length r (Nat.le_refl _) with ⟨p, h1, h2, _⟩ | ⟨p, r2, h1, h2, _⟩
    · -- one piece
      subst h2
      rw [h1]
      by_cases hr : (readB i c r).2 = 1
      · -- it is no operand
        have hL : (if ([r] : List (List UInt8)).length ≠ (c :: o).length then (insZ, 1) else loopB (c :: o) [r] i e) = (insZ, 1) := by
          split
          · rfl
          · rw [loopB, if_pos hr]
        rw [hL]
        cases hs : opScan j c r with
        | none => rfl
        | some y =>
          obtain ⟨x, f, u⟩ := y
          simp only
          obtain ⟨q, q1, q2, q3, _⟩ := tok_one j c r u x f hs
          have hu : u ≠ [] := by
            rintro rfl
            rw [List.append_nil] at q1
            subst q1
            rw [read_code i j] at hr
            rw [hr] at q3
            split at q3 <;> omega
          cases o with
          | nil => rw [refOps, if_neg hu]
          | cons c2 o2 =>
            refine (refOps_not _ _ _ _ _ fun hp => ?_).symm
            obtain ⟨u2, hu2⟩ := List.isPrefixOf_iff_prefix.1 hp
            have := (split2_tok q u q2).2 u2 hu2.symm
            rw [← q1, h1] at this
            simp only [List.cons.injEq] at this
            exact absurd this.2 (by have := split2_ne u2; intro e2; exact this e2.symm)
      · obtain ⟨x, f, hs⟩ := tok_two j c r [] (by rw [← read_code i j]; exact hr) (Or.inl rfl)
        rw [List.append_nil] at hs
        rw [hs]
        simp only
        obtain ⟨q, q1, q2, q3, q4⟩ := tok_one j c r [] x f hs
        rw [List.append_nil] at q1
        subst q1
        cases o with
        | nil =>
          rw [if_neg (by simp), loopB, if_neg hr, loopB, refOps, if_pos rfl]
          rw [← read_code i j] at q3
          rw [q3, he]
          cases far <;> cases f <;> simp
          rw [hij rfl, q4 rfl]
        | cons c2 o2 => rw [if_pos (by simp), refOps, if_neg (by simp)]
    · -- more pieces
      rw [h1]
      by_cases hr : (readB i c p).2 = 1
      · have hL : (if (p :: split2 r2).length ≠ (c :: o).length then (insZ, 1) else loopB (c :: o) (p :: split2 r2) i e) = (insZ, 1) := by
          split
          · rfl
          · rw [loopB, if_pos hr]
        rw [hL]
        cases hs : opScan j c r with
        | none => rfl
        | some y =>
          obtain ⟨x, f, u⟩ := y
          simp only
          obtain ⟨q, q1, q2, q3, _⟩ := tok_one j c r u x f hs
          have hpq : p ≠ q := by
            rintro rfl
            rw [read_code i j] at hr
            rw [hr] at q3
            split at q3 <;> omega
          have hu : u ≠ [] := by
            intro hu
            have := (split2_tok q u q2).1 hu
            rw [← q1, h1] at this
            simp only [List.cons.injEq] at this
            exact hpq this.1
          cases o with
          | nil => rw [refOps, if_neg hu]
          | cons c2 o2 =>
            refine (refOps_not _ _ _ _ _ fun hp => ?_).symm
            obtain ⟨u2, hu2⟩ := List.isPrefixOf_iff_prefix.1 hp
            have := (split2_tok q u q2).2 u2 hu2.symm
            rw [← q1, h1] at this
            simp only [List.cons.injEq] at this
            exact hpq this.1
      · obtain ⟨x, f, hs⟩ := tok_two j c p (44 :: 32 :: r2) (by rw [← read_code i j]; exact hr) (Or.inr rfl)
        rw [← h2] at hs
        rw [hs]
        simp only
        obtain ⟨q, q1, q2, q3, q4⟩ := tok_one j c r _ x f hs
        have hpq : p = q := by
          rw [h2] at q1
          exact List.append_cancel_right q1
        subst hpq
        cases o with
        | nil =>
          have := split2_ne r2
          rw [if_pos (by cases hh : split2 r2 with | nil => exact absurd hh this | cons a b => simp), refOps, if_neg (by simp)]
        | cons c2 o2 =>
          rw [refOps_sep]
          have ih := ops_one o2 c2 (readB i c p).1 x (if e = 0 then (readB i c p).2 else e) (far || f) r2
            (by rw [← read_code i j] at q3; rw [q3, he]; cases far <;> cases f <;> rfl)
            (fun hff => by
              rw [Bool.or_eq_false_iff] at hff
              rw [hij hff.1]
              exact q4 hff.2)
          rw [← ih]
          have hlen : (p :: split2 r2).length ≠ (c :: c2 :: o2).length ↔ (split2 r2).length ≠ (c2 :: o2).length := by simp
          by_cases hl : (split2 r2).length ≠ (c2 :: o2).length
          · rw [if_pos hl, if_pos (hlen.2 hl)]
          · rw [if_neg hl, if_neg (fun hh => hl (hlen.1 hh)), loopB, if_neg hr]
/-- The program's answer is the document's. -/
theorem parse_ref (s : List UInt8) : parseB s = refB s := by
  obtain ⟨h1, h2, h3⟩ := cut_name s
  unfold parseB refB piecesB
  rw [h1, h2]
  by_cases hk : nameN (nameOf s) = 0
  · rw [if_pos hk, if_pos hk]
  · rw [if_neg hk, if_neg hk]
    generalize nameN (nameOf s) = k at *
    by_cases hc : (cutC 32 s).2.2 = true
    · simp only [if_pos hc]
      generalize (cutC 32 s).2.1 = r
      cases ho : orderB k with
      | nil =>
        have := split2_ne r
        rw [if_pos (by cases hh : split2 r with | nil => exact absurd hh this | cons a b => simp), refOps, if_neg (by simp)]
      | cons c o =>
        rw [ops_one o c _ ⟨(k : Int), 0, 0, 0, 0⟩ 0 false r rfl (fun _ => rfl), refOps, if_pos (by simp [List.isPrefixOf])]
        have hd : (32 :: r).drop (if true = true then [32] else [44, 32] : List UInt8).length = r := rfl
        rw [hd]
    · simp only [if_neg hc]
      cases ho : orderB k with
      | nil => rw [if_neg (by simp), loopB, if_pos rfl, refOps, if_pos rfl, if_neg (by simp)]
      | cons c o => rw [if_pos (by simp), refOps, if_neg (by simp)]
end Go.Proofs.YtnppegldebocmaaGreatDoor
