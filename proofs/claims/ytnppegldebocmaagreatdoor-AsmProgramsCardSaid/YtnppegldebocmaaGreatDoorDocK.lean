/- The walk of changelinglaw1.AlikeWords where the words are alike. Conditions: as each theorem states. The document's reading of a line: where a label begins, the digits of a word, the branches that wait. No program in sight. Conditions: as each theorem states. The walks of the document's isLabel, lineKind, wordOf, labelOf. Conditions: as each theorem states. The walk of the document's labelOf. Conditions: as each theorem states. The state of the document's AssembleOf in memory: names, places, words; its result's cells. Conditions: as each theorem states. The walk of one round of the first loop of the document's AssembleOf (block 1), by the line's kind. Conditions: as each theorem states. The walk of one round of the second loop of the document's AssembleOf (block 6). Conditions: as each theorem states. What the condition on the ten errors and on the library's handle gives. Conditions: as each theorem states. How a row is closed where the call has only made new blocks. Conditions: as the theorem states. The walk of the document's AssembleOf. Conditions: as each theorem states. The walks of errors.As, errors.Is, plain.Code and faulted at an api.Fault. Conditions: as each theorem states. The walk of changelinglaw1.AsmPrograms: it answers true. Conditions: as each theorem states. -/
import Derived.Test.YtnppegldebocmaaGreatDoorAsmK
import Derived.Test.YtnppegldebocmaaGreatDoorPofM
import Derived.Test.YtnppegldebocmaaGreatDoorDecOf
import Derived.Test.YtnppegldebocmaaGreatDoorSent
import Derived.Test.YtnppegldebocmaaGreatDoorIs
import Derived.WalkKit
import Derived.ProofKit
import Derived.Below
import Derived.ChangeSame
import Derived.Carry
import Derived.OpenShut
import Derived.Laws.AppendOwnNone
namespace Go.Proofs.YtnppegldebocmaaGreatDoor
open Go.RowKit
set_option linter.unusedVariables false
/-- A slice of words. -/
def ArgW (w : World) (v : Value) (zs : List Int) : Prop :=
  ∃ p cap, v = .slice p zs.length cap ∧ ∀ j (h : j < zs.length), ∃ a, p = some a ∧ w.cell? (a.add j) = some (.int .u32 zs[j])
theorem ArgW.below {w w' : World} {v : Value} {zs : List Int} (h : ArgW w v zs) (hb : Below w.heap.size w w') : ArgW w' v zs := by
  obtain ⟨p, cap, h1, h2⟩ := h
  refine ⟨p, cap, h1, fun j hj => ?_⟩
  obtain ⟨a, e, hc⟩ := h2 j hj
  exact ⟨a, e, (hb.cell (World.block_lt_of_cell? _ _ hc)).trans hc⟩
theorem ArgW.own {w : World} {B : Nat} {v : Value} {zs : List Int} (h : w.ownsRow B 22 1 v zs.length (zs.map (.int .u32))) : ArgW w v zs := by
  rcases Joins.ownsRow_forms h with ⟨rfl, hz⟩ | ⟨g, cap, rfl⟩
  · exact ⟨none, 0, by rw [hz], fun j hj => absurd hj (by omega)⟩
  · refine ⟨some ⟨g, 0, none⟩, cap, rfl, fun j hj => ⟨_, rfl, ?_⟩⟩
    exact h.cells rfl j (.int .u32 zs[j]) (by rw [List.getElem?_map, List.getElem?_eq_getElem hj]; rfl)
set_option maxHeartbeats 1000000 in
theorem alike_same (zs : List Int) (hl : zs.length ≤ 1000) (v1 v2 : Value) (w : World) (h1 : ArgW w v1 zs) (h2 : ArgW w v2 zs) :
    Calls Tryz.prog 17 #[v1, v2] w fun e w' => e = .returned (.int .i64 1) ∧ ∃ k, w' = w.drewN k := by
  obtain ⟨p, cap, rfl, hc1⟩ := h1
  obtain ⟨q, cap2, rfl, hc2⟩ := h2
  have H1 := Lib.hid hc1
  have H2 := Lib.hid hc2
  clear hc1 hc2
  go_enter Tryz.func17, Tryz.ntmps17
  go_wp2_with fail
  go_loopw [5] (fun kv wr => ∃ j k : Nat, j ≤ zs.length ∧ kv = .int .i64 (j : Int) ∧ wr = w.drewN k) (fun kv _ => zs.length - (intOf kv).toNat)
  case atStart => exact ⟨0, 0, Nat.zero_le _, rfl, by simp [World.drewN_zero]⟩
  case round =>
    obtain ⟨j, k, hj, rfl, rfl⟩ := hrel
    by_cases hlt : j < zs.length
    · obtain ⟨a, rfl, ha⟩ := H1.out j hlt
      obtain ⟨b, rfl, hb⟩ := H2.out j hlt
      have hjl : (j : Int) < (zs.length : Int) := by go_light; omega
      have ha2 : (w.drewN k).cell? (a.add j) = some (.int .u32 zs[j]) := ha
      have hb2 : (w.drewN k).cell? (b.add j) = some (.int .u32 zs[j]) := hb
      generalize zs[j] = z at *
      have hz := Tryz.underlying22
      go_wp2_with fail
      go_quiet (fail)
      go_wp2
      go_roundw
      case rel => exact ⟨j + 1, _, hlt, by go_num, rfl⟩
      case measure => go_light; simp [intOf]; omega
    · have hje : j = zs.length := by go_light; omega
      subst hje
      clear hlt
      go_wp2
      go_ret
      exact ⟨rfl, _, rfl⟩
end Go.Proofs.YtnppegldebocmaaGreatDoor
namespace Go.Proofs.YtnppegldebocmaaGreatDoor
open Go.RowKit
set_option linter.unusedVariables false
/-- Does a text begin with a comma and a space? -/
def commaAt (r : List UInt8) : Bool := ([44, 32] : List UInt8).isPrefixOf r
/-- The place behind the last comma and space that begins below a place. -/
def lastO (r : List UInt8) : Nat → Option Nat
  | 0 => none
  | j + 1 => if commaAt (r.drop j) = true then some (j + 2) else lastO r j
theorem lastO_cons (x : UInt8) (q : List UInt8) : ∀ n, lastO (x :: q) (n + 1) = match lastO q n with
    | some p => some (p + 1)
    | none => if commaAt (x :: q) = true then some 2 else none
  | 0 => by simp [lastO]
  | n + 1 => by
    have ih := lastO_cons x q n
    rw [show lastO (x :: q) (n + 1 + 1) = if commaAt ((x :: q).drop (n + 1)) = true then some (n + 1 + 2) else lastO (x :: q) (n + 1) from rfl, List.drop_succ_cons, ih]
    rw [show lastO q (n + 1) = if commaAt (q.drop n) = true then some (n + 2) else lastO q n from rfl]
    by_cases h : commaAt (q.drop n) = true
    · rw [if_pos h, if_pos h]
    · rw [if_neg h, if_neg h]
theorem commaAt_short {r : List UInt8} (h : r.length ≤ 1) : commaAt r = false := by
  match r, h with
  | [], _ => rfl
  | [x], _ => simp [commaAt, List.isPrefixOf]
theorem lastO_end (r : List UInt8) (n : Nat) (h : r.length ≤ n + 1) : lastO r (n + 1) = lastO r n := by
  show (if commaAt (r.drop n) = true then some (n + 2) else lastO r n) = _
  rw [commaAt_short (by rw [List.length_drop]; omega), if_neg (by decide)]
def lastF (r : List UInt8) : Option Nat := lastO r r.length
theorem lastO_all (r : List UInt8) : ∀ k, lastO r (r.length + k) = lastF r
  | 0 => rfl
  | k + 1 => by rw [show r.length + (k + 1) = (r.length + k) + 1 from by omega, lastO_end r _ (by omega), lastO_all r k]
theorem lastO_fin (r : List UInt8) (n : Nat) (h : r.length ≤ n + 1) : lastO r n = lastF r := by
  rw [← lastO_end r n h]
  obtain ⟨k, e⟩ : ∃ k, n + 1 = r.length + k := ⟨n + 1 - r.length, by omega⟩
  rw [e, lastO_all]
theorem lastF_cons (x : UInt8) (q : List UInt8) : lastF (x :: q) = match lastF q with
    | some p => some (p + 1)
    | none => if commaAt (x :: q) = true then some 2 else none := lastO_cons x q q.length
/-- The last piece between commas begins there. -/
theorem last_form : ∀ (n : Nat) (r : List UInt8), r.length ≤ n → ∃ xs y, split2 r = xs ++ [y] ∧ r.drop ((lastF r).getD 0) = y ∧ (lastF r).getD 0 ≤ r.length ∧ (lastF r = none ↔ xs = [])
  | _, [], _ => ⟨[], [], by simp [split2], by simp [lastF, lastO], by simp [lastF, lastO], by simp [lastF, lastO]⟩
  | 0, x :: t, h => by simp at h
  | n + 1, x :: t, h => by
    have ht : t.length ≤ n := by simp at h; omega
    by_cases hc : x = 44 ∧ t.head? = some 32
    · obtain ⟨rfl, h32⟩ := hc
      obtain ⟨u, rfl⟩ : ∃ u, t = 32 :: u := by
        cases t with
        | nil => simp at h32
        | cons a b => simp at h32; exact ⟨b, by rw [h32]⟩
      obtain ⟨xs, y, h1, h2, h3, h4⟩ := last_form n u (by simp at ht; omega)
      have e32 : commaAt (32 :: u) = false := by simp [commaAt, List.isPrefixOf]
      have e44 : commaAt (44 :: 32 :: u) = true := by simp [commaAt, List.isPrefixOf]
      have hF : lastF (44 :: 32 :: u) = some ((lastF u).getD 0 + 2) := by
        rw [lastF_cons, lastF_cons, e32, e44]
        cases lastF u <;> rfl
      refine ⟨[] :: xs, y, ?_, ?_, ?_, ?_⟩
      · rw [split2, if_pos ⟨rfl, rfl⟩]
        show [] :: split2 u = _
        rw [h1]; rfl
      · rw [hF]
        exact h2
      · rw [hF]
        simp only [Option.getD_some, List.length_cons]
        omega
      · rw [hF]; simp
    · obtain ⟨xs, y, h1, h2, h3, h4⟩ := last_form n t ht
      have hno : commaAt (x :: t) = false := by
        cases hcc : commaAt (x :: t) with
        | false => rfl
        | true =>
          refine absurd ?_ hc
          unfold commaAt at hcc
          cases t with
          | nil => simp [List.isPrefixOf] at hcc
          | cons a b =>
            simp [List.isPrefixOf] at hcc
            exact ⟨hcc.1.symm, by simp [hcc.2]⟩
      rw [split2, if_neg hc, h1]
      cases hF : lastF t with
      | none =>
        rw [hF] at h2 h4
        obtain rfl := h4.1 rfl
        have hFc : lastF (x :: t) = none := by rw [lastF_cons, hF, hno]; rfl
        rw [hFc]
        refine ⟨[], x :: y, rfl, ?_, by simp, by simp⟩
        simp at h2 ⊢
        exact h2
      | some p =>
        rw [hF] at h2 h3 h4
        have hFc : lastF (x :: t) = some (p + 1) := by rw [lastF_cons, hF]
        rw [hFc]
        cases xs with
        | nil => exact absurd (h4.2 rfl) (by simp)
        | cons a b => exact ⟨(x :: a) :: b, y, rfl, by simpa using h2, by simpa using h3, by simp⟩
/-- What labelled makes of a line, said by places. -/
theorem labelled_form (s : List UInt8) (h : (nameOf s).length < s.length) :
    labelledB s = if (isBr (nameN (nameOf s)) && labelB (s.drop ((nameOf s).length + 1 + (lastF (s.drop ((nameOf s).length + 1))).getD 0))) = true then
      some (s.take ((nameOf s).length + 1 + (lastF (s.drop ((nameOf s).length + 1))).getD 0) ++ [48], s.drop ((nameOf s).length + 1 + (lastF (s.drop ((nameOf s).length + 1))).getD 0)) else none := by
  obtain ⟨c1, c2, c3⟩ := cut_name s
  have hfound : (cutC 32 s).2.2 = true := by
    cases hf : (cutC 32 s).2.2 with
    | true => rfl
    | false =>
      rw [hf, if_neg (by decide)] at c2
      have := congrArg List.length c2
      rw [List.length_drop] at this
      simp at this
      omega
  rw [hfound, if_pos rfl] at c2
  have hr : s.drop ((nameOf s).length + 1) = (cutC 32 s).2.1 := by
    rw [show (nameOf s).length + 1 = 1 + (nameOf s).length from by omega, ← List.drop_drop, List.drop_drop, show 1 + (nameOf s).length = (nameOf s).length + 1 from by omega, ← List.drop_drop, c2]
    rfl
  have hp : piecesB s = split2 (cutC 32 s).2.1 := by unfold piecesB; rw [hfound, if_pos rfl]
  rw [hr]
  have hsd : ∀ m, s.drop ((nameOf s).length + 1 + m) = (cutC 32 s).2.1.drop m := fun m => by rw [← List.drop_drop, hr]
  have hst : ∀ m, s.take ((nameOf s).length + 1 + m) = nameOf s ++ (32 :: (cutC 32 s).2.1.take m) := by
    intro m
    rw [List.take_add, hr]
    have : s.take ((nameOf s).length + 1) = nameOf s ++ [32] := by
      rw [List.take_add, c2, take_name_of]
      rfl
    rw [this, List.append_assoc]
    rfl
  rw [hsd, hst]
  generalize (cutC 32 s).2.1 = r at *
  obtain ⟨xs, y, h1, h2, h3, h4⟩ := last_form r.length r (Nat.le_refl _)
  rw [labelledB_snoc (hp.trans h1), c1, h2]
  have hj : ∀ z, Lib.join (xs ++ [z]) [44, 32] = r.take ((lastF r).getD 0) ++ z := by
    have hjoin := join_split2 r.length r (Nat.le_refl _)
    rw [h1] at hjoin
    obtain ⟨P, hP⟩ : ∃ P : List UInt8, ∀ z, Lib.join (xs ++ [z]) [44, 32] = P ++ z := by
      cases xs with
      | nil => exact ⟨[], fun z => by simp [Lib.join_one]⟩
      | cons a q => exact ⟨a ++ Lib.joinTail [44, 32] q ++ [44, 32], fun z => by rw [List.cons_append, Lib.join_cons, joinTail_snoc]; simp⟩
    rw [hP] at hjoin
    have hPe : P = r.take ((lastF r).getD 0) := by
      have hd := List.take_append_drop ((lastF r).getD 0) r
      rw [h2] at hd
      exact List.append_cancel_right (hjoin.trans hd.symm)
    intro z
    rw [hP, hPe]
  rw [hj]
  simp
theorem labelled_none (s : List UInt8) (h : (nameOf s).length = s.length) : labelledB s = none := by
  obtain ⟨c1, c2, c3⟩ := cut_name s
  have hp : piecesB s = [] := by
    unfold piecesB
    rw [if_neg]
    intro hf
    rw [hf, if_pos rfl, h, List.drop_length] at c2
    cases c2
  exact labelledB_nil hp
/-- Where a branch's label begins, or -1. -/
def docAt (s : List UInt8) : Int := match labelledB s with
  | some (_, y) => (s.length : Int) - (y.length : Int)
  | none => -1
theorem labelled_at {s l y : List UInt8} (h : labelledB s = some (l, y)) : ∃ k : Nat, k ≤ s.length ∧ docAt s = (k : Int) ∧ l = s.take k ++ [48] ∧ y = s.drop k := by
  by_cases hn : (nameOf s).length < s.length
  · have hf := labelled_form s hn
    rw [hf] at h
    split at h
    · next hc =>
      simp only [Option.some.injEq, Prod.mk.injEq] at h
      obtain ⟨h1, h2⟩ := h
      have hle := last_form _ (s.drop ((nameOf s).length + 1)) (Nat.le_refl _)
      obtain ⟨xs, z, _, _, h3, _⟩ := hle
      rw [List.length_drop] at h3
      refine ⟨(nameOf s).length + 1 + (lastF (s.drop ((nameOf s).length + 1))).getD 0, by omega, ?_, h1.symm, h2.symm⟩
      unfold docAt
      rw [hf, if_pos hc]
      simp only [List.length_drop]
      omega
    · cases h
  · have hle : (nameOf s).length ≤ s.length := by
      have := congrArg List.length (take_name_of s)
      rw [List.length_take] at this
      omega
    rw [labelled_none s (by omega)] at h
    cases h
/-- Rows of the table that are branches with an operand that may be a label. -/
def brRow (k : Nat) : Bool := kindB k == [98, 114, 97, 110, 99, 104] && ((fieldsB k).contains 105 || (fieldsB k).contains 106)
theorem brRow_is : ∀ k, k < 54 → (1 ≤ k → brRow k = isBr k) := by decide +kernel
theorem isBr_0 : isBr 0 = false := by decide
/-- Has one of the rows below a number this name, and is it such a branch? -/
def named2 (l : List UInt8) : Nat → Bool
  | 0 => false
  | n + 1 => named2 l n || (decide (1 ≤ n) && (nameB n == l && brRow n))
theorem named2_true {l : List UInt8} : ∀ {n : Nat}, named2 l n = true → ∃ k, k < n ∧ 1 ≤ k ∧ nameB k = l ∧ brRow k = true
  | n + 1, h => by
    unfold named2 at h
    rw [Bool.or_eq_true] at h
    rcases h with h | h
    · obtain ⟨k, h1, h2⟩ := named2_true h
      exact ⟨k, by omega, h2⟩
    · simp only [Bool.and_eq_true, decide_eq_true_eq, beq_iff_eq] at h
      exact ⟨n, by omega, h.1, h.2.1, h.2.2⟩
theorem named2_of {l : List UInt8} {k : Nat} (h1 : 1 ≤ k) (h2 : nameB k = l) (h3 : brRow k = true) : ∀ {n : Nat}, k < n → named2 l n = true
  | n + 1, h => by
    unfold named2
    by_cases e : k = n
    · subst e
      simp [h1, h2, h3]
    · rw [named2_of h1 h2 h3 (show k < n by omega), Bool.true_or]
theorem named2_all (l : List UInt8) : named2 l 54 = isBr (nameN l) := by
  cases h : named2 l 54 with
  | true =>
    obtain ⟨k, hk, k1, hn, hb⟩ := named2_true h
    rw [nameN_hit l k k1 hk hn, ← brRow_is k hk k1, hb]
  | false =>
    cases hb : isBr (nameN l) with
    | false => rfl
    | true =>
      have hz : nameN l ≠ 0 := fun e => by rw [e, isBr_0] at hb; cases hb
      have hlt : nameN l < 54 := nameN_lt l
      have := named2_of (k := nameN l) (n := 54) (by omega) (nameN_spec l hz) (by rw [brRow_is _ hlt (by omega)]; exact hb) hlt
      rw [h] at this
      cases this
/-- Digits of a word, as the document reads them (-1: none). -/
def wordI (s : List UInt8) : Int := match scanNum s with
  | some (v, []) => if 0 ≤ v ∧ v < 4294967296 then v else -1
  | _ => -1
theorem itoa_nat (u : Nat) : Lib.itoa (u : Int) = Lib.decDigits u := by
  unfold Lib.itoa
  simp
theorem pum_app (M : Nat) : ∀ (l r : List UInt8) (acc a : Nat), Lib.parseUintM M acc l = .ok a → Lib.parseUintM M acc (l ++ r) = Lib.parseUintM M a r
  | [], r, acc, a, h => by
    simp only [Lib.parseUintM, Lib.NumEnd.ok.injEq] at h
    rw [h]; rfl
  | c :: l, r, acc, a, h => by
    rw [List.cons_append]
    unfold Lib.parseUintM at h ⊢
    split at h
    · split at h
      · cases h
      · split at h
        · cases h
        · next h1 h2 h3 =>
          rw [if_pos h1, if_neg h2, if_neg h3]
          refine (pum_app M l r _ a h).trans ?_
          cases r <;> rfl
    · cases h
theorem dig_of (d : Nat) (h : d < 10) : (UInt8.ofNat (48 + d)).toNat = 48 + d := by
  rw [UInt8.toNat_ofNat']
  omega
theorem pum_one (M acc d : Nat) (hd : d < 10) (h : acc * 10 + d ≤ M) (hM : M < 4294967296) : Lib.parseUintM M acc [UInt8.ofNat (48 + d)] = .ok (acc * 10 + d) := by
  have e := dig_of d hd
  unfold Lib.parseUintM
  rw [e, if_pos (by omega), if_neg (by omega), show 48 + d - 48 = d from by omega, if_neg (by omega)]
  rfl
theorem pum_dec (M : Nat) (hM : M < 4294967296) : ∀ (n u : Nat), u ≤ n → u ≤ M → Lib.parseUintM M 0 (Lib.decDigits u) = .ok u := by
  intro n
  induction n with
  | zero =>
    intro u h1 h2
    have : u = 0 := by omega
    subst this
    rw [Lib.decDigits_one (by decide)]
    exact pum_one M 0 0 (by decide) (by omega) hM
  | succ n ih =>
    intro u h1 h2
    by_cases h : u < 10
    · rw [Lib.decDigits_one h]
      have := pum_one M 0 u h (by omega) hM
      simpa using this
    · rw [Lib.decDigits, dif_neg h, pum_app M _ _ _ (u / 10) (ih (u / 10) (by omega) (by omega))]
      have := pum_one M (u / 10) (u % 10) (by omega) (by omega) hM
      rw [this]
      congr 1
      omega
theorem decDigits_ne (u : Nat) : Lib.decDigits u ≠ [] := fun h => by
  have := congrArg List.length h
  rw [Lib.decDigits_length] at this
  have := Lib.nDigits_pos u
  simp at *
  omega
theorem wordB_dec (u : Nat) (h : u < 4294967296) : wordB (Lib.decDigits u) = some u := by
  have : Lib.parseUintB 32 (Lib.decDigits u) = .ok u := by
    unfold Lib.parseUintB
    rw [if_neg (decDigits_ne u)]
    exact pum_dec (2 ^ 32 - 1) (by decide) u u (Nat.le_refl _) (by omega)
  rw [wordB_ok this, if_pos rfl]
theorem wordI_some {s : List UInt8} {u : Nat} (h : wordB s = some u) : wordI s = (u : Int) := by
  obtain ⟨h1, h2⟩ := wordB_lt h
  have hn : numB s = some (u : Int) := by
    rw [← h2, ← itoa_nat]
    exact num_itoa _ (by omega) (by omega)
  have hs := scan_num (t := []) hn (Or.inl rfl)
  rw [List.append_nil] at hs
  unfold wordI
  rw [hs]
  simp only
  rw [if_pos ⟨by omega, by omega⟩]
theorem wordI_none {s : List UInt8} (h : wordB s = none) : wordI s = -1 := by
  unfold wordI
  split
  · next v hv =>
    split
    · next hb =>
      obtain ⟨q, e, hq, _, _⟩ := num_scan hv
      rw [List.append_nil] at e
      subst e
      have hi := itoa_num hq
      obtain ⟨u, rfl⟩ := Int.eq_ofNat_of_zero_le hb.1
      rw [itoa_nat] at hi
      rw [← hi, wordB_dec u (by omega)] at h
      cases h
    · rfl
  · rfl
/-- The branches that wait, of lines from a number on, the first word's number given. -/
def waitsL : Int → Nat → List (List UInt8) → Waits
  | _, _, [] => []
  | i, k, s :: L => if Lib.hasSuffix s [58] = true then waitsL (i + 1) k L else
      if Lib.hasPrefix s [46, 119, 111, 114, 100] = true then waitsL (i + 1) (k + 1) L else
      match labelledB s with
      | some (_, y) => (i, (k : Int), y) :: waitsL (i + 1) (k + 1) L
      | none => waitsL (i + 1) (k + 1) L
def wordsL : List (List UInt8) → Nat
  | [] => 0
  | s :: L => if Lib.hasSuffix s [58] = true then wordsL L else wordsL L + 1
theorem stepE_waits {base i : Int} {st st' : StE} {s : List UInt8} (h : stepE base i st s = .ok st') (L : List (List UInt8)) :
    st'.2 ++ waitsL (i + 1) st'.1.1.length L = st.2 ++ waitsL i st.1.1.length (s :: L) ∧ st'.1.1.length + wordsL L = st.1.1.length + wordsL (s :: L) := by
  unfold stepE at h
  simp only [waitsL, wordsL]
  split at h
  · next hs =>
    rw [if_pos hs, if_pos hs]
    split at h
    · split at h
      · cases h
      · cases h; exact ⟨rfl, rfl⟩
    · cases h
  · next hs =>
    rw [if_neg hs, if_neg hs]
    split at h
    · next hp =>
      rw [if_pos hp]
      split at h
      · cases h
        refine ⟨by simp, by simp; omega⟩
      · cases h
    · next hp =>
      rw [if_neg hp]
      split at h
      · next l y hl =>
        split at h
        · cases h
          simp only [hl]
          refine ⟨by simp, by simp; omega⟩
        · cases h
      · next hl =>
        split at h
        · cases h
          simp only [hl]
          refine ⟨by simp, by simp; omega⟩
        · cases h
theorem goodE_waits {base : Int} : ∀ (L : List (List UInt8)) (i : Int) (st r : StE), goodE base i L st = .ok r → r.2 = st.2 ++ waitsL i st.1.1.length L ∧ r.1.1.length = st.1.1.length + wordsL L
  | [], i, st, r, h => by
    simp only [goodE, Except.ok.injEq] at h
    subst h
    simp [waitsL, wordsL]
  | s :: L, i, st, r, h => by
    unfold goodE at h
    cases hs : stepE base i st s with
    | error k => rw [hs] at h; cases h
    | ok st' =>
      rw [hs] at h
      obtain ⟨h1, h2⟩ := goodE_waits L (i + 1) st' r h
      obtain ⟨e1, e2⟩ := stepE_waits hs L
      exact ⟨h1.trans e1, h2.trans e2⟩
end Go.Proofs.YtnppegldebocmaaGreatDoor
namespace Go.Proofs.YtnppegldebocmaaGreatDoor
open Go.RowKit
set_option linter.unusedVariables false
theorem lab_no {s : List UInt8} {i : Nat} (h : i < s.length) (hb : lowC (s[i]'h) = false ∧ (i = 0 ∨ labC (s[i]'h) = false)) : labelB s = false := by
  cases s with
  | nil => rfl
  | cons c r =>
    show (decide (r.length < 12) && (lowC c && (c :: r).all labC)) = _
    obtain ⟨h1, h2⟩ := hb
    by_cases h0 : i = 0
    · subst h0
      have : lowC c = false := h1
      rw [this, Bool.false_and, Bool.and_false]
    · have h3 : labC ((c :: r)[i]'h) = false := by
        rcases h2 with h2 | h2
        · exact absurd h2 h0
        · exact h2
      have : (c :: r).all labC = false := List.all_eq_false.2 ⟨_, List.getElem_mem h, by rw [h3]; decide⟩
      rw [this, Bool.and_false, Bool.and_false]
theorem lab_yes {s : List UInt8} (h0 : 1 ≤ s.length) (h12 : s.length ≤ 12) (hall : ∀ i (h : i < s.length), lowC (s[i]'h) = true ∨ (labC (s[i]'h) = true ∧ i ≠ 0)) : labelB s = true := by
  cases s with
  | nil => simp at h0
  | cons c r =>
    show (decide (r.length < 12) && (lowC c && (c :: r).all labC)) = _
    have hl : lowC c = true := by
      rcases hall 0 (by simp) with h | ⟨_, h⟩
      · exact h
      · exact absurd rfl h
    have ha : (c :: r).all labC = true := by
      rw [List.all_eq_true]
      intro x hx
      obtain ⟨i, hi, e⟩ := List.getElem_of_mem hx
      rcases hall i hi with h | ⟨h, _⟩
      · rw [← e]; unfold labC; rw [h, Bool.true_or]
      · rw [← e]; exact h
    have hd : decide (r.length < 12) = true := decide_eq_true (by simp at h12; omega)
    rw [hl, ha, hd]
    rfl
theorem lab_long {s : List UInt8} (h : 12 < s.length) : labelB s = false := by
  cases s with
  | nil => rfl
  | cons c r =>
    show (decide (r.length < 12) && (lowC c && (c :: r).all labC)) = _
    have hd : decide (r.length < 12) = false := decide_eq_false (by simp at h; omega)
    rw [hd, Bool.false_and]
theorem byte_ways (c : UInt8) : ((c.toNat : Int) < 48 ∧ lowC c = false ∧ labC c = false) ∨ ((48 ≤ (c.toNat : Int) ∧ (c.toNat : Int) ≤ 57 ∧ (c.toNat : Int) < 97) ∧ lowC c = false ∧ labC c = true) ∨
    ((48 ≤ (c.toNat : Int) ∧ 57 < (c.toNat : Int) ∧ (c.toNat : Int) < 97) ∧ lowC c = false ∧ labC c = false) ∨ ((48 ≤ (c.toNat : Int) ∧ 57 < (c.toNat : Int) ∧ 97 ≤ (c.toNat : Int) ∧ (c.toNat : Int) ≤ 122) ∧ lowC c = true) ∨
    ((48 ≤ (c.toNat : Int) ∧ 57 < (c.toNat : Int) ∧ 97 ≤ (c.toNat : Int) ∧ 122 < (c.toNat : Int)) ∧ lowC c = false ∧ labC c = false) := by
  have hlow : lowC c = (decide (97 ≤ c.toNat) && decide (c.toNat ≤ 122)) := rfl
  have hlab : labC c = (lowC c || (decide (48 ≤ c.toNat) && decide (c.toNat ≤ 57))) := rfl
  rw [hlab, hlow]
  simp only [Bool.and_eq_false_iff, Bool.or_eq_false_iff, Bool.or_eq_true, Bool.and_eq_true, decide_eq_true_eq, decide_eq_false_iff_not]
  omega
set_option maxHeartbeats 1000000 in
theorem isLabel_any (s : List UInt8) (hl : s.length ≤ 100) (w : World) :
    Calls Tryz.prog 52 #[.string (bsl s)] w fun e w' => e = .returned (.bool (labelB s)) ∧ w = w' := by
  have hsz := bsl_size s
  by_cases h1 : s.length < 1
  · have h1' : (s.length : Int) < 1 := by omega
    have HL : Hid (labelB s = false) := by
      show _ = _
      have : s = [] := List.eq_nil_of_length_eq_zero (by omega)
      rw [this]; rfl
    go_enter Tryz.func52, Tryz.ntmps52
    go_wp2
    go_ret
    exact ⟨(by rw [HL.out]; try rfl), rfl⟩
  by_cases h2 : 12 < s.length
  · have h1' : ¬ (s.length : Int) < 1 := by omega
    have h2' : (12 : Int) < (s.length : Int) := by omega
    have HL : Hid (labelB s = false) := lab_long h2
    go_enter Tryz.func52, Tryz.ntmps52
    go_wp2
    go_ret
    exact ⟨(by rw [HL.out]; try rfl), rfl⟩
  have h1' : ¬ (s.length : Int) < 1 := by omega
  have h2' : ¬ (12 : Int) < (s.length : Int) := by omega
  have H1 : Hid (1 ≤ s.length) := by show _ ≤ _; omega
  have H2 : Hid (s.length ≤ 12) := by show _ ≤ _; omega
  clear h1 h2
  go_enter Tryz.func52, Tryz.ntmps52
  go_wp2
  go_loop [3] (fun v => ∃ i : Nat, i ≤ s.length ∧ v = .int .i64 (i : Int) ∧ Hid (∀ j (h : j < s.length), j < i → lowC (s[j]'h) = true ∨ (labC (s[j]'h) = true ∧ j ≠ 0))) (fun v => s.length - (intOf v).toNat)
  case atStart => exact ⟨0, Nat.zero_le _, rfl, fun j h hj => absurd hj (Nat.not_lt_zero j)⟩
  case round =>
    obtain ⟨i, hi, rfl, HN⟩ := hrel
    by_cases hlt : i < s.length
    · have hlt' : i < (bsl s).size := by omega
      have hli : (i : Int) < (s.length : Int) := by omega
      have hg : (bsl s)[i]'hlt' = s[i]'hlt := bsl_get s i _
      have HW := byte_ways (s[i]'hlt)
      obtain ⟨c, hc⟩ : ∃ c, s[i]'hlt = c := ⟨_, rfl⟩
      rw [hc] at hg HW
      have HC := Lib.hid hc
      have HLT := Lib.hid hlt
      clear hc
      rcases HW with ⟨a1, q⟩ | ⟨⟨a1, a2, a3⟩, q⟩ | ⟨⟨a1, a2, a3⟩, q⟩ | ⟨⟨a1, a2, a3, a4⟩, q⟩ | ⟨⟨a1, a2, a3, a4⟩, q⟩
      · have HL : Hid (labelB s = false) := lab_no hlt (by rw [HC.out]; exact ⟨q.1, Or.inr q.2⟩)
        have b1 : (c.toNat : Int) < 97 := by omega
        clear q
        go_wp2
        go_ret
        exact ⟨(by rw [HL.out]; try rfl), rfl⟩
      · by_cases h0 : i = 0
        · have HL : Hid (labelB s = false) := lab_no hlt (by rw [HC.out]; exact ⟨q.1, Or.inl h0⟩)
          have b0 : ((i : Int) == 0) = true := by rw [h0]; rfl
          clear q h0
          go_wp2
          go_ret
          exact ⟨(by rw [HL.out]; try rfl), rfl⟩
        · have b0 : ((i : Int) == 0) = false := beq_eq_false_iff_ne.2 (by omega)
          have HQ := Lib.hid (And.intro q.2 h0)
          clear q h0
          go_wp2
          go_round
          case rel =>
            refine ⟨i + 1, by omega, by go_num, fun j h hj => ?_⟩
            by_cases e : j = i
            · subst e; rw [HC.out]; exact Or.inr HQ.out
            · exact HN.out j h (by omega)
          case measure => simp [intOf]; omega
      · have HL : Hid (labelB s = false) := lab_no hlt (by rw [HC.out]; exact ⟨q.1, Or.inr q.2⟩)
        clear q
        go_wp2
        go_ret
        exact ⟨(by rw [HL.out]; try rfl), rfl⟩
      · have HQ := Lib.hid q
        clear q
        go_wp2
        go_round
        case rel =>
          refine ⟨i + 1, by omega, by go_num, fun j h hj => ?_⟩
          by_cases e : j = i
          · subst e; rw [HC.out]; exact Or.inl HQ.out
          · exact HN.out j h (by omega)
        case measure => simp [intOf]; omega
      · have HL : Hid (labelB s = false) := lab_no hlt (by rw [HC.out]; exact ⟨q.1, Or.inr q.2⟩)
        have d1 : decide ((c.toNat : Int) ≤ 122) = false := decide_eq_false (by omega)
        clear q
        go_wp2
        go_ret
        exact ⟨(by rw [HL.out]; try rfl), rfl⟩
    · have HL : Hid (labelB s = true) := lab_yes H1.out H2.out (fun j h => HN.out j h (by omega))
      go_wp2
      go_ret
      exact ⟨(by rw [HL.out]; try rfl), rfl⟩
/-- A line's kind. -/
def kindZ (s : List UInt8) : Int := if Lib.hasSuffix s [58] = true then 108 else if Lib.hasPrefix s [46, 119, 111, 114, 100] = true then 119 else 105
theorem suffix_one (xs : List UInt8) (c : UInt8) : Lib.hasSuffix (xs ++ [c]) [58] = (c == 58) := by
  unfold Lib.hasSuffix
  cases h : ([58] : List UInt8).isSuffixOf (xs ++ [c]) with
  | true =>
    rw [List.isSuffixOf_iff_suffix] at h
    obtain ⟨t, ht⟩ := h
    have := List.append_inj_right' ht rfl
    simp at this
    rw [← this]; rfl
  | false =>
    symm
    rw [beq_eq_false_iff_ne]
    rintro rfl
    have : ([58] : List UInt8).isSuffixOf (xs ++ [58]) = true := by rw [List.isSuffixOf_iff_suffix]; exact ⟨xs, rfl⟩
    rw [h] at this
    cases this
theorem prefix_five (s : List UInt8) : Lib.hasPrefix s [46, 119, 111, 114, 100] = (decide (5 ≤ s.length) && (s.take 5 == [46, 119, 111, 114, 100])) := by
  unfold Lib.hasPrefix
  cases h : ([46, 119, 111, 114, 100] : List UInt8).isPrefixOf s with
  | true =>
    obtain ⟨h1, h2⟩ := (pre_take _ _).1 h
    rw [decide_eq_true (by simpa using h1)]
    simp only [List.length_cons, List.length_nil] at h2
    rw [h2]; rfl
  | false =>
    symm
    rw [Bool.and_eq_false_iff]
    by_cases h5 : 5 ≤ s.length
    · right
      rw [beq_eq_false_iff_ne]
      intro h2
      rw [(pre_take [46, 119, 111, 114, 100] s).2 ⟨by simpa using h5, h2⟩] at h
      cases h
    · left
      exact decide_eq_false h5
set_option maxHeartbeats 1000000 in
theorem lineKind_any (s : List UInt8) (hl : s.length ≤ 100) (w : World) :
    Calls Tryz.prog 51 #[.string (bsl s)] w fun e w' => e = .returned (.int .u8 (kindZ s)) ∧ w = w' := by
  have hsz := bsl_size s
  rcases snoc_of s with h0 | ⟨xs, c, hs⟩
  · subst h0
    go_enter Tryz.func51, Tryz.ntmps51
    go_wp2
    go_ret
    exact ⟨rfl, rfl⟩
  · have hlen : s.length = xs.length + 1 := by rw [hs]; simp
    have hsf : Lib.hasSuffix s [58] = (c == 58) := by rw [hs]; exact suffix_one xs c
    have hlt : xs.length < (bsl s).size := by omega
    have hg : (bsl s)[xs.length]'hlt = c := by
      rw [bsl_get]
      simp [hs]
    have h1 : (0 : Int) < (s.length : Int) := by omega
    have h2 : (s.length : Int) - 1 = (xs.length : Int) := by omega
    have hpf := prefix_five s
    by_cases hc : c = 58
    · have hc' : ((c.toNat : Int) == 58) = true := by rw [hc]; rfl
      have HK : Hid (kindZ s = 108) := by show _ = _; unfold kindZ; rw [hsf, hc]; rfl
      clear hc hsf hpf hs
      go_enter Tryz.func51, Tryz.ntmps51
      go_wp2
      go_ret
      exact ⟨(by rw [HK.out]; try rfl), rfl⟩
    · have hc' : ((c.toNat : Int) == 58) = false := beq_eq_false_iff_ne.2 fun e => hc (UInt8.toNat_inj.1 (by show _ = 58; omega))
      have hsf' : Lib.hasSuffix s [58] = false := by rw [hsf]; exact beq_eq_false_iff_ne.2 hc
      have HK : Hid (kindZ s = if Lib.hasPrefix s [46, 119, 111, 114, 100] = true then 119 else 105) := by show _ = _; unfold kindZ; rw [hsf']; rfl
      clear hc hsf hs hsf'
      by_cases h5 : 5 ≤ s.length
      · have h5' : (5 : Int) ≤ (s.length : Int) := by omega
        have hex : (bsl s).extract 0 5 = bsl (s.take 5) := by rw [ext_bsl]; simp
        cases h6 : (s.take 5 == [46, 119, 111, 114, 100])
        · have h6' : ((bsl (s.take 5)).toList == [46, 119, 111, 114, 100]) = false := by rw [bsl_l2]; exact h6
          have HK2 : Hid (kindZ s = 105) := by show _ = _; rw [HK.out, hpf, h6, Bool.and_false]; rfl
          clear hpf h6
          generalize bsl (s.take 5) = t5 at *
          go_enter Tryz.func51, Tryz.ntmps51
          go_wp2
          go_ret
          exact ⟨(by rw [HK2.out]; try rfl), rfl⟩
        · have h6' : ((bsl (s.take 5)).toList == [46, 119, 111, 114, 100]) = true := by rw [bsl_l2]; exact h6
          have HK2 : Hid (kindZ s = 119) := by show _ = _; rw [HK.out, hpf, h6, decide_eq_true h5]; rfl
          clear hpf h6
          generalize bsl (s.take 5) = t5 at *
          go_enter Tryz.func51, Tryz.ntmps51
          go_wp2
          go_ret
          exact ⟨(by rw [HK2.out]; try rfl), rfl⟩
      · have h5' : (s.length : Int) < 5 := by omega
        have HK2 : Hid (kindZ s = 105) := by show _ = _; rw [HK.out, hpf, decide_eq_false h5, Bool.false_and]; rfl
        clear hpf h5
        go_enter Tryz.func51, Tryz.ntmps51
        go_wp2
        go_ret
        exact ⟨(by rw [HK2.out]; try rfl), rfl⟩
set_option maxHeartbeats 1000000 in
theorem wordOf_any (s : List UInt8) (hl : s.length ≤ 100) (w : World) :
    Calls Tryz.prog 53 #[.string (bsl s)] w fun e w' => e = .returned (.int .i64 (wordI s)) ∧ w = w' := by
  have hsz := bsl_size s
  have HN := Lib.hid (number_at s hl 0 (Nat.zero_le _) w)
  rw [List.drop_zero] at HN
  have HWI : Hid (wordI s = (match scanNum s with | some (v, []) => if 0 ≤ v ∧ v < 4294967296 then v else -1 | _ => -1)) := rfl
  have HBD : Hid (∀ v r, scanNum s = some (v, r) → -99999999999 ≤ v ∧ v ≤ 99999999999) := fun v r h => scanNum_bound h
  have HLE : Hid (∀ v r, scanNum s = some (v, r) → r.length ≤ s.length) := fun v r h => by
    obtain ⟨q, e, _⟩ := num_scan h
    have := congrArg List.length e
    rw [List.length_append] at this
    omega
  generalize scanNum s = sc at *
  cases sc with
  | none =>
    have hne : ((-1 : Int) == (s.length : Int)) = false := beq_eq_false_iff_ne.2 (by omega)
    have HW : Hid (wordI s = -1) := HWI.out
    go_enter Tryz.func53, Tryz.ntmps53
    go_wp2_with fail
    refine HN.out.mono ?_
    rintro e w' ⟨rfl, rfl⟩
    simp only [numR]
    go_wp2_with fail
    go_ret
    exact ⟨(by rw [HW.out]; try rfl), rfl⟩
  | some p =>
    obtain ⟨v, r⟩ := p
    obtain ⟨b0, b1⟩ := HBD.out v r rfl
    have hle := HLE.out v r rfl
    simp only [numR] at HN
    cases r with
    | cons c t =>
      have hne : ¬ ((s.length : Int) - ((c :: t).length : Int) = (s.length : Int)) := by rw [List.length_cons]; omega
      have HW : Hid (wordI s = -1) := HWI.out
      generalize ((c :: t).length : Int) = rl at *
      clear HWI HBD HLE
      go_enter Tryz.func53, Tryz.ntmps53
      go_wp2_with fail
      refine HN.out.mono ?_
      rintro e w' ⟨rfl, rfl⟩
      go_wp2_with fail
      go_ret
      exact ⟨(by rw [HW.out]; try rfl), rfl⟩
    | nil =>
      have hz : (s.length : Int) - (([] : List UInt8).length : Int) = (s.length : Int) := by simp
      rw [hz] at HN
      have hee : ((s.length : Int) == (s.length : Int)) = true := beq_self_eq_true _
      by_cases h0 : v < 0
      · have HW : Hid (wordI s = -1) := by show _ = _; rw [HWI.out]; simp only; rw [if_neg (by omega)]
        clear HWI HBD HLE
        go_enter Tryz.func53, Tryz.ntmps53
        go_wp2_with fail
        refine HN.out.mono ?_
        rintro e w' ⟨rfl, rfl⟩
        go_wp2_with fail
        go_ret
        exact ⟨(by rw [HW.out]; try rfl), rfl⟩
      · by_cases h32 : 4294967296 ≤ v
        · have HW : Hid (wordI s = -1) := by show _ = _; rw [HWI.out]; simp only; rw [if_neg (by omega)]
          clear HWI HBD HLE
          go_enter Tryz.func53, Tryz.ntmps53
          go_wp2_with fail
          refine HN.out.mono ?_
          rintro e w' ⟨rfl, rfl⟩
          go_wp2_with fail
          go_ret
          exact ⟨(by rw [HW.out]; try rfl), rfl⟩
        · have HW : Hid (wordI s = v) := by show _ = _; rw [HWI.out]; simp only; rw [if_pos (by omega)]
          have h33 : v < 4294967296 := by omega
          clear HWI HBD HLE
          go_enter Tryz.func53, Tryz.ntmps53
          go_wp2_with fail
          refine HN.out.mono ?_
          rintro e w' ⟨rfl, rfl⟩
          go_wp2_with fail
          go_ret
          exact ⟨(by rw [HW.out]; try rfl), rfl⟩
end Go.Proofs.YtnppegldebocmaaGreatDoor
namespace Go.Proofs.YtnppegldebocmaaGreatDoor
open Go.RowKit
set_option linter.unusedVariables false
set_option linter.unusedSimpArgs false
theorem named2_same {l : List UInt8} {j : Nat} (h : ¬ (nameB j = l ∧ brRow j = true)) : named2 l (j + 1) = named2 l j := by
  show (named2 l j || (decide (1 ≤ j) && (nameB j == l && brRow j))) = _
  have : (nameB j == l && brRow j) = false := by
    rw [Bool.and_eq_false_iff]
    by_cases e : nameB j = l
    · right
      cases hb : brRow j with
      | false => rfl
      | true => exact absurd ⟨e, hb⟩ h
    · left
      exact beq_eq_false_iff_ne.2 e
  rw [this, Bool.and_false, Bool.or_false]
theorem named2_hit {l : List UInt8} {j : Nat} (h1 : 1 ≤ j) (hn : nameB j = l) (hb : brRow j = true) : named2 l (j + 1) = true := by
  show (named2 l j || (decide (1 ≤ j) && (nameB j == l && brRow j))) = _
  rw [hn, hb, decide_eq_true h1]
  simp
theorem comma_take (r : List UInt8) : commaAt r = (r.take 2 == [44, 32]) := by
  unfold commaAt
  cases h : ([44, 32] : List UInt8).isPrefixOf r with
  | true =>
    obtain ⟨h1, h2⟩ := (pre_take _ _).1 h
    simp only [List.length_cons, List.length_nil] at h2
    rw [h2]; rfl
  | false =>
    symm
    rw [beq_eq_false_iff_ne]
    intro h2
    have hl : 2 ≤ r.length := by
      have := congrArg List.length h2
      rw [List.length_take] at this
      simp at this
      omega
    rw [(pre_take [44, 32] r).2 ⟨by simpa using hl, h2⟩] at h
    cases h
set_option maxHeartbeats 4000000 in
set_option maxRecDepth 1000000 in
theorem labelOf_any (s : List UInt8) (hl : s.length ≤ 100) (w : World) :
    Calls Tryz.prog 54 #[.string (bsl s)] w fun e w' => e = .returned (.int .i64 (docAt s)) ∧ Below w.heap.size w w' := by
  have hsz := bsl_size s
  have HAT := Lib.hid (name_at s)
  have HEND := Lib.hid (name_end s)
  have HTK := Lib.hid (take_name_of s)
  have hnl : (nameOf s).length ≤ s.length := by
    have hp : nameOf s <+: s := List.takeWhile_prefix _
    exact hp.length_le
  have HNO : Hid ((nameOf s).length = s.length → docAt s = -1) := by
    intro h
    unfold docAt
    rw [labelled_none s h]
  have HYES : Hid ((nameOf s).length < s.length → docAt s = if (isBr (nameN (nameOf s)) && labelB (s.drop ((nameOf s).length + 1 + (lastF (s.drop ((nameOf s).length + 1))).getD 0))) = true then (((nameOf s).length + 1 + (lastF (s.drop ((nameOf s).length + 1))).getD 0 : Nat) : Int) else -1) := by
    intro h
    unfold docAt
    rw [labelled_form s h]
    obtain ⟨xs, z, _, _, h3, _⟩ := last_form _ (s.drop ((nameOf s).length + 1)) (Nat.le_refl _)
    rw [List.length_drop] at h3
    split
    · next x y hxy =>
      split at hxy
      · next hc =>
        rw [if_pos hc]
        simp only [Option.some.injEq, Prod.mk.injEq] at hxy
        rw [← hxy.2, List.length_drop]
        omega
      · cases hxy
    · next hxy =>
      split at hxy
      · cases hxy
      · next hc => rw [if_neg hc]
  generalize docAt s = R at *
  generalize nameOf s = nm at *
  go_enter Tryz.func54, Tryz.ntmps54
  go_wp2_with fail
  go_loop [3] (fun kv => ∃ p : Nat, p ≤ nm.length ∧ kv = .int .i64 (p : Int)) (fun kv => nm.length - (intOf kv).toNat)
  case atStart => exact ⟨0, Nat.zero_le _, rfl⟩
  case round =>
    obtain ⟨p, hp, rfl⟩ := hrel
    by_cases hlt : p < nm.length
    · have hps : p < (bsl s).size := by omega
      have hp' : (p : Int) < (s.length : Int) := by omega
      have h32 : ((((bsl s)[p]'hps).toNat : Int) == 32) = false := by
        rw [bsl_get]
        exact beq_eq_false_iff_ne.2 fun e => HAT.out p hlt (by omega) (UInt8.toNat_inj.1 (by show _ = 32; omega))
      go_wp2
      go_round
      case rel => exact ⟨p + 1, by omega, by go_num⟩
      case measure => simp [intOf]; omega
    · have hpe : p = nm.length := by omega
      subst hpe
      clear hlt hp
      by_cases hend : nm.length = s.length
      · have HR := Lib.hid (HNO.out hend)
        have hee : ((nm.length : Int) == (s.length : Int)) = true := beq_iff_eq.2 (by omega)
        have hge : ¬ (nm.length : Int) < (s.length : Int) := by omega
        clear hend
        go_wp2_with fail
        go_ret
        exact ⟨(by rw [HR.out]; try rfl), Below.refl _ _⟩
      · have hlt : nm.length < s.length := by omega
        have hps : nm.length < (bsl s).size := by omega
        have hp' : (nm.length : Int) < (s.length : Int) := by omega
        have hee : ((nm.length : Int) == (s.length : Int)) = false := beq_eq_false_iff_ne.2 (by omega)
        have h32 : ((((bsl s)[nm.length]'hps).toNat : Int) == 32) = true := by
          rw [bsl_get]
          rcases HEND.out with e | ⟨h, e⟩
          · exact absurd e hend
          · rw [e]; rfl
        have HR := Lib.hid (HYES.out hlt)
        have HLT := Lib.hid hlt
        clear hend HNO HYES
        go_wp2_with fail
        refine (rows_R w).mono ?_
        rintro e w1 ⟨rb, rfl, hrb0, hrb1, hrows, hb1⟩
        have HRS := Lib.hid hrows
        have HB1 := Lib.hid hb1
        have HRB := Lib.hid hrb1
        clear hrows hb1 h32
        have hex : (bsl s).extract 0 nm.length = bsl nm := by
          apply ByteArray.ext
          rw [ByteArray.data_extract]
          have h1 : (bsl s).data = s.toArray := rfl
          rw [h1]
          have h2 := HTK.out
          apply Array.ext'
          simp [bsl, h2]
        go_wp2_with fail
        go_loopw [5, 6] (fun bv kv wr => ∃ j n : Nat, 1 ≤ j ∧ j ≤ 54 ∧ kv = .int .i64 (j : Int) ∧ bv = .bool (named2 nm j) ∧ wr = w1.drewN n) (fun _ kv _ => 54 - (intOf kv).toNat)
        case atStart => exact ⟨1, 0, Nat.le_refl _, by decide, rfl, by rfl, by simp [World.drewN_zero]⟩
        case round =>
          obtain ⟨j, n, hj1, hj2, rfl, rfl, rfl⟩ := hrel
          by_cases hlt2 : j < 54
          · have r0 : w1.cell? ⟨rb, j * 6, none⟩ = some (.string (bsl (nameB j))) := HRS.out j 0 _ hlt2 rfl
            have r3 : w1.cell? ⟨rb, j * 6 + 3, none⟩ = some (.string (bsl (fieldsB j))) := HRS.out j 3 _ hlt2 rfl
            have r5 : w1.cell? ⟨rb, j * 6 + 5, none⟩ = some (.string (bsl (kindB j))) := HRS.out j 5 _ hlt2 rfl
            have hj54 : (j : Int) < 54 := by omega
            by_cases he : nameB j = nm
            · rw [he] at r0
              by_cases hk : kindB j = [98, 114, 97, 110, 99, 104]
              · have hkn : ((bsl (kindB j)).toList == [98, 114, 97, 110, 99, 104]) = true := by rw [bsl_l2, hk]; rfl
                have HI := Lib.hid (fun b h W => isOf_lit (fieldsB j) (fields_len j) 105 105 (by decide) b h W)
                have HJ := Lib.hid (fun b h W => isOf_lit (fieldsB j) (fields_len j) 106 106 (by decide) b h W)
                cases hi : (fieldsB j).contains 105
                · cases hjj : (fieldsB j).contains 106
                  · have HN : Hid (named2 nm (j + 1) = named2 nm j) := named2_same (fun h => by have := h.2; unfold brRow at this; rw [hi, hjj] at this; simp at this)
                    have HI2 := Lib.hid (fun W => HI.out false hi W)
                    have HJ2 := Lib.hid (fun W => HJ.out false hjj W)
                    clear HI HJ hi hjj he hk
                    generalize bsl (kindB j) = kd at *
                    generalize bsl (fieldsB j) = fs at *
                    go_wp2_with fail
                    go_quiet (first | (go_at_call 32; (with_reducible refine (HI2.out _).mono ?_); exact fun _ _ h => ⟨h.1, _, h.2.symm⟩) | (go_at_call 32; (with_reducible refine (HJ2.out _).mono ?_); exact fun _ _ h => ⟨h.1, _, h.2.symm⟩))
                    go_wp2
                    go_roundw
                    case rel => exact ⟨j + 1, _, by omega, by omega, by go_num, by rw [HN.out], rfl⟩
                    case measure => simp [intOf]; omega
                  · have HN : Hid (named2 nm (j + 1) = true) := named2_hit hj1 he (by unfold brRow; rw [hi, hjj, hk]; rfl)
                    have HI2 := Lib.hid (fun W => HI.out false hi W)
                    have HJ2 := Lib.hid (fun W => HJ.out true hjj W)
                    clear HI HJ hi hjj he hk
                    generalize bsl (kindB j) = kd at *
                    generalize bsl (fieldsB j) = fs at *
                    go_wp2_with fail
                    go_quiet (first | (go_at_call 32; (with_reducible refine (HI2.out _).mono ?_); exact fun _ _ h => ⟨h.1, _, h.2.symm⟩) | (go_at_call 32; (with_reducible refine (HJ2.out _).mono ?_); exact fun _ _ h => ⟨h.1, _, h.2.symm⟩))
                    go_wp2
                    go_roundw
                    case rel => exact ⟨j + 1, _, by omega, by omega, by go_num, by rw [HN.out], rfl⟩
                    case measure => simp [intOf]; omega
                · have HN : Hid (named2 nm (j + 1) = true) := named2_hit hj1 he (by unfold brRow; rw [hi, hk]; rfl)
                  have HI2 := Lib.hid (fun W => HI.out true hi W)
                  clear HI HJ hi he hk
                  generalize bsl (kindB j) = kd at *
                  generalize bsl (fieldsB j) = fs at *
                  go_wp2_with fail
                  go_quiet (first | (go_at_call 32; (with_reducible refine (HI2.out _).mono ?_); exact fun _ _ h => ⟨h.1, _, h.2.symm⟩))
                  go_wp2
                  go_roundw
                  case rel => exact ⟨j + 1, _, by omega, by omega, by go_num, by rw [HN.out], rfl⟩
                  case measure => simp [intOf]; omega
              · have HN : Hid (named2 nm (j + 1) = named2 nm j) := named2_same (fun h => by have := h.2; unfold brRow at this; rw [beq_eq_false_iff_ne.2 hk, Bool.false_and] at this; cases this)
                have hkn : ((bsl (kindB j)).toList == [98, 114, 97, 110, 99, 104]) = false := by rw [bsl_l2]; exact beq_eq_false_iff_ne.2 hk
                clear hk he
                generalize bsl (kindB j) = kd at *
                go_wp2_with fail
                go_quiet (fail)
                go_wp2
                go_roundw
                case rel => exact ⟨j + 1, _, by omega, by omega, by go_num, by rw [HN.out], rfl⟩
                case measure => simp [intOf]; omega
            · have HN : Hid (named2 nm (j + 1) = named2 nm j) := named2_same (fun h => he h.1)
              have hne : ((bsl (nameB j)).toList == (bsl nm).toList) = false := by
                rw [bsl_l2, bsl_l2]
                exact beq_eq_false_iff_ne.2 he
              clear he
              generalize bsl (nameB j) = ns at *
              go_wp2_with fail
              go_quiet (fail)
              go_wp2
              go_roundw
              case rel => exact ⟨j + 1, _, by omega, by omega, by go_num, by rw [HN.out], rfl⟩
              case measure => simp [intOf]; omega
          · have hj : j = 54 := by omega
            subst hj
            rw [named2_all]
            have HBW : Hid (Below w.heap.size w (w1.drewN n)) := blw_drewN HB1.out n
            obtain ⟨r, hr⟩ : ∃ r, s.drop (nm.length + 1) = r := ⟨_, rfl⟩
            have hrl : r.length = s.length - (nm.length + 1) := by rw [← hr, List.length_drop]
            rw [hr] at HR
            have HDR : Hid (∀ m, s.drop (nm.length + 1 + m) = r.drop m) := fun m => by rw [← hr, List.drop_drop]
            have HRR := Lib.hid hr
            generalize isBr (nameN nm) = bb at *
            generalize w1.drewN n = w2 at *
            clear hr hlt2 hj1 hj2 HRS HRB HB1 hex hrb0 hrb1 HAT HEND HTK
            go_wp2_with fail
            go_loop [7, 8] (fun av kv => ∃ q a : Nat, nm.length + 1 ≤ q ∧ q ≤ s.length ∧ kv = .int .i64 (q : Int) ∧ av = .int .i64 (a : Int) ∧ Hid (a = nm.length + 1 + (lastO r (q - (nm.length + 1))).getD 0)) (fun _ kv => s.length - (intOf kv).toNat)
            case atStart => exact ⟨nm.length + 1, nm.length + 1, Nat.le_refl _, HLT.out, by go_num, by go_num, by show _ = _; rw [Nat.sub_self]; rfl⟩
            case round =>
              obtain ⟨q, a, hq1, hq2, rfl, rfl, HA⟩ := hrel
              have HDQ : Hid (s.drop q = r.drop (q - (nm.length + 1))) := by
                show _ = _
                rw [← HDR.out (q - (nm.length + 1))]
                congr 1
                omega
              by_cases hlt3 : q + 1 < s.length
              · have hq1' : (q : Int) + 1 < (s.length : Int) := by omega
                have hq2' : (q : Int) + 2 ≤ (s.length : Int) := by omega
                have hex3 : (bsl s).extract q (q + 2) = bsl ((s.drop q).take 2) := by rw [ext_bsl, Nat.add_sub_cancel_left]
                have hct := comma_take (s.drop q)
                have HST : Hid (lastO r (q + 1 - (nm.length + 1)) = if commaAt (s.drop q) = true then some (q + 1 - nm.length) else lastO r (q - (nm.length + 1))) := by
                  show _ = _
                  rw [show q + 1 - (nm.length + 1) = (q - (nm.length + 1)) + 1 from by omega, HDQ.out]
                  show (if _ then _ else _) = _
                  rw [show q - (nm.length + 1) + 2 = q + 1 - nm.length from by omega]
                cases hcm : commaAt (s.drop q)
                · rw [hcm] at hct HST
                  have h2 : ((bsl ((s.drop q).take 2)).toList == [44, 32]) = false := by rw [bsl_l2]; exact hct.symm
                  clear hct hcm
                  generalize bsl ((s.drop q).take 2) = t2 at *
                  go_wp2_with fail
                  go_round
                  case rel => exact ⟨q + 1, a, by omega, by omega, by go_num, rfl, by show _ = _; rw [HST.out]; exact HA.out⟩
                  case measure => simp [intOf]; omega
                · rw [hcm] at hct HST
                  have h2 : ((bsl ((s.drop q).take 2)).toList == [44, 32]) = true := by rw [bsl_l2]; exact hct.symm
                  clear hct hcm
                  generalize bsl ((s.drop q).take 2) = t2 at *
                  go_wp2_with fail
                  go_round
                  case rel => exact ⟨q + 1, q + 2, by omega, by omega, by go_num, by go_num, by show _ = _; rw [HST.out]; simp only [if_true, Option.getD_some]; omega⟩
                  case measure => simp [intOf]; omega
              · have hq3 : ¬ (q : Int) + 1 < (s.length : Int) := by omega
                have HF : Hid (a = nm.length + 1 + (lastF r).getD 0) := by show _ = _; rw [HA.out, lastO_fin r _ (by omega)]
                have hal : a ≤ s.length := by
                  obtain ⟨xs, z, _, _, h3, _⟩ := last_form _ r (Nat.le_refl _)
                  rw [HF.out]; omega
                have hex4 : (bsl s).extract a (bsl s).size = bsl (s.drop a) := by rw [ext_bsl, hsz, List.take_of_length_le (by rw [List.length_drop]; omega)]
                have hex5 : (bsl s).extract a s.length = bsl (s.drop a) := by rw [ext_bsl, List.take_of_length_le (by rw [List.length_drop]; omega)]
                rw [← HF.out] at HR
                have HIL := Lib.hid (isLabel_any (s.drop a) (by rw [List.length_drop]; omega) w2)
                clear HA HDQ hlt3 HRR HDR HLT
                generalize labelB (s.drop a) = lb at *
                go_wp2_with fail
                refine HIL.out.mono ?_
                rintro e w' ⟨rfl, rfl⟩
                cases bb <;> cases lb
                all_goals
                  have HR2 := Lib.hid HR.out
                  simp only [Bool.false_and, Bool.true_and, Bool.and_true, Bool.and_false, if_true, Bool.false_eq_true, if_false] at HR2
                  clear HR
                  go_wp2_with fail
                  go_ret
                  exact ⟨(by rw [HR2.out]; try rfl), HBW.out⟩
end Go.Proofs.YtnppegldebocmaaGreatDoor
namespace Go.Proofs.YtnppegldebocmaaGreatDoor
open Go.RowKit
set_option linter.unusedVariables false
/-- A block of two cells. -/
def Duo (w : World) (b : Nat) (t : TypeId) (a0 a1 : Value) : Prop := w.heap[b]? = some (.cells #[a0, a1] t (0, 0))
theorem Duo.cells {w : World} {b : Nat} {t : TypeId} {a0 a1 : Value} (h : Duo w b t a0 a1) : w.cell? ⟨b, 0, none⟩ = some a0 ∧ w.cell? ⟨b, 1, none⟩ = some a1 ∧ w.frozen? ⟨b, 0, none⟩ = false ∧ w.frozen? ⟨b, 1, none⟩ = false := by
  unfold Duo at h
  refine ⟨?_, ?_, ?_, ?_⟩ <;> simp [World.cell?, World.frozen?, h]
def fill2 (w : World) (b : Nat) (v0 v1 : Value) : World := (w.setCell ⟨b, 0, none⟩ v0).setCell ⟨b, 1, none⟩ v1
theorem Duo.fill {w : World} {b : Nat} {t : TypeId} {a0 a1 : Value} (h : Duo w b t a0 a1) (v0 v1 : Value) : Duo (fill2 w b v0 v1) b t v0 v1 :=
  Joins.block_setCell (i := 1) (Joins.block_setCell (i := 0) h v0) v1
theorem below_fill2 {B : Nat} {a w : World} (h : Below B a w) {b : Nat} (hb : B ≤ b) (v0 v1 : Value) : Below B a (fill2 w b v0 v1) :=
  (h.setCell (p := ⟨b, 0, none⟩) hb v0).setCell (p := ⟨b, 1, none⟩) hb v1
/-- The document's AssembleOf as memory has it: its result's cells, names of labels, places of labels, words. -/
structure DocS (w0 w : World) (nv pv ov : Value) (ns : Labs) (ws : List Int) : Prop where
  res : Duo w w0.heap.size 55 (.int .i64 0) (.int .i64 0)
  names : w.ownsRow w0.heap.size 9 1 nv ns.length (ns.map fun x => .string (bsl x.1))
  places : w.ownsRow w0.heap.size 22 1 pv ns.length (ns.map fun x => .int .u32 x.2)
  words : w.ownsRow w0.heap.size 22 1 ov ws.length (ws.map (.int .u32))
  apart : pv.ownBlock = none ∨ pv.ownBlock ≠ ov.ownBlock
  below : Below w0.heap.size w0 w
  size : w0.heap.size ≤ w.heap.size
theorem DocS.lt {w0 w : World} {nv pv ov : Value} {ns : Labs} {ws : List Int} (h : DocS w0 w nv pv ov ns ws) : w0.heap.size < w.heap.size := (Array.getElem?_eq_some_iff.1 h.res).1
theorem DocS.trans {w0 w w' : World} {nv pv ov : Value} {ns : Labs} {ws : List Int} (h : DocS w0 w nv pv ov ns ws) (hb : Below w.heap.size w w') : DocS w0 w' nv pv ov ns ws where
  res := (hb.block _ h.lt).trans h.res
  names := own_below h.names hb
  places := own_below h.places hb
  words := own_below h.words hb
  apart := h.apart
  below := h.below.trans (hb.mono h.size)
  size := Nat.le_trans h.size hb.size
theorem DocS.drewN {w0 w : World} {nv pv ov : Value} {ns : Labs} {ws : List Int} (h : DocS w0 w nv pv ov ns ws) (n : Nat) : DocS w0 (w.drewN n) nv pv ov ns ws := h.trans (blw_drewN (Below.refl _ _) n)
theorem apart_none {v u : Value} : (v.ownBlock = none ∨ v.ownBlock ≠ u.ownBlock) → (u.ownBlock = none ∨ u.ownBlock ≠ v.ownBlock) := by
  intro h
  by_cases hu : u.ownBlock = none
  · exact Or.inl hu
  · rcases h with h | h
    · exact Or.inr (fun e => hu (e.trans h))
    · exact Or.inr (fun e => h e.symm)
theorem ne_types {w : World} {B1 B2 : Nat} {e1 e2 : TypeId} {s1 s2 : Nat} {v1 v2 : Value} {n1 n2 : Nat} {x1 x2 : List Value} (h1 : w.ownsRow B1 e1 s1 v1 n1 x1) (h2 : w.ownsRow B2 e2 s2 v2 n2 x2) (hne : e1 ≠ e2) : v2.ownBlock = none ∨ v2.ownBlock ≠ v1.ownBlock := by
  rcases h2.2 with ⟨e, _⟩ | ⟨g, cap, cur, e, _, hh, _⟩
  · exact Or.inl (by rw [e]; rfl)
  · refine Or.inr ?_
    rw [e]
    exact own_ne h1 hh hne
/-- A name is appended. -/
theorem DocS.name {w0 w w4 : World} {nv pv ov : Value} {ns : Labs} {ws : List Int} (h : DocS w0 w nv pv ov ns ws) (hg : w.grownBy w4 nv.ownBlock) :
    Duo w4 w0.heap.size 55 (.int .i64 0) (.int .i64 0) ∧ w4.ownsRow w0.heap.size 22 1 pv ns.length (ns.map fun x => .int .u32 x.2) ∧ w4.ownsRow w0.heap.size 22 1 ov ws.length (ws.map (.int .u32)) ∧
    Below w0.heap.size w0 w4 ∧ w0.heap.size ≤ w4.heap.size :=
  ⟨(hg.block _ h.lt (own_ne h.names h.res (by decide))).trans h.res, h.places.kept hg (ne_types h.names h.places (by decide)), h.words.kept hg (ne_types h.names h.words (by decide)), h.below.grown hg h.size (fun k hk => (h.names.lt k hk).1), Nat.le_trans h.size hg.size⟩
/-- A name and its place are appended. -/
theorem DocS.label {w0 w w4 w6 : World} {nv nv' pv pv' ov : Value} {ns : Labs} {ws : List Int} {x : List UInt8 × Int} (h : DocS w0 w nv pv ov ns ws) (hg : w.grownBy w4 nv.ownBlock)
    (hn : w4.ownsRow w0.heap.size 9 1 nv' (ns.length + 1) (ns.map (fun x => .string (bsl x.1)) ++ [.string (bsl x.1)]))
    (hg6 : w4.grownBy w6 pv.ownBlock) (hp : w6.ownsRow w0.heap.size 22 1 pv' (ns.length + 1) (ns.map (fun x => .int .u32 x.2) ++ [.int .u32 x.2])) (hat : pv.ownBlock = pv'.ownBlock ∨ ∃ H, pv'.ownBlock = some H ∧ w4.heap.size ≤ H) : DocS w0 w6 nv' pv' ov (ns ++ [x]) ws := by
  obtain ⟨h1, h2, h3, h4, h5⟩ := h.name hg
  have hap : ov.ownBlock = none ∨ ov.ownBlock ≠ pv.ownBlock := apart_none h.apart
  refine ⟨(hg6.block _ (Array.getElem?_eq_some_iff.1 h1).1 (own_ne h2 h1 (by decide))).trans h1, ?_, ?_, h3.kept hg6 hap, ?_, h4.grown hg6 h5 (fun k hk => (h2.lt k hk).1), Nat.le_trans h5 hg6.size⟩
  · rw [List.length_append, List.map_append]
    exact hn.kept hg6 (ne_types h2 hn (by decide))
  · rw [List.length_append, List.map_append]
    exact hp
  · rcases hat with e | ⟨H, e, hH⟩
    · rw [← e]; exact h.apart
    · right
      rw [e]
      intro e2
      have := (h3.lt H e2.symm).2
      omega
/-- A word is appended. -/
theorem DocS.word {w0 w w4 : World} {nv pv ov ov' : Value} {ns : Labs} {ws : List Int} {x : Int} (h : DocS w0 w nv pv ov ns ws) (hg : w.grownBy w4 ov.ownBlock)
    (hn : w4.ownsRow w0.heap.size 22 1 ov' (ws.length + 1) (ws.map (.int .u32) ++ [.int .u32 x])) (hat : ov.ownBlock = ov'.ownBlock ∨ ∃ H, ov'.ownBlock = some H ∧ w.heap.size ≤ H) : DocS w0 w4 nv pv ov' ns (ws ++ [x]) := by
  refine ⟨(hg.block _ h.lt (own_ne h.words h.res (by decide))).trans h.res, h.names.kept hg (ne_types h.words h.names (by decide)), h.places.kept hg h.apart, ?_, ?_, h.below.grown hg h.size (fun k hk => (h.words.lt k hk).1), Nat.le_trans h.size hg.size⟩
  · rw [List.length_append, List.map_append]
    exact hn
  · rcases hat with e | ⟨H, e, hH⟩
    · rw [← e]; exact h.apart
    · by_cases hp : pv.ownBlock = none
      · exact Or.inl hp
      · right
        rw [e]
        intro e2
        have := (h.places.lt H e2).2
        omega
/-- A word is changed. -/
theorem DocS.put {w0 w : World} {nv pv : Value} {g cap : Nat} {ns : Labs} {ws : List Int} (h : DocS w0 w nv pv (.slice (some ⟨g, 0, none⟩) ws.length cap) ns ws) (k : Nat) (x : Int) :
    DocS w0 (w.setCell ⟨g, k, none⟩ (.int .u32 x)) nv pv (.slice (some ⟨g, 0, none⟩) ws.length cap) ns (ws.set k x) := by
  obtain ⟨h1, h2⟩ := h.words.stored k (.int .u32 x)
  refine ⟨(h2.block _ h.lt (own_ne h.words h.res (by decide))).trans h.res, h.names.kept h2 (ne_types h.words h.names (by decide)), h.places.kept h2 h.apart, ?_, h.apart, h.below.grown h2 h.size (fun k hk => (h.words.lt k hk).1), by simpa using h.size⟩
  rw [List.length_set, List.map_set]
  exact h1
/-- What AssembleOf ends with. -/
def DocEnd (w : World) (fin : Except (Int × Nat) (List Int)) (e : Ending) (w' : World) : Prop :=
  Below w.heap.size w w' ∧ ((∃ r wv, fin = .ok r ∧ e = .returned (.tuple #[wv, .agg #[.int .i64 0, .int .i64 (-1)]]) ∧ ArgW w' wv r)
    ∨ (∃ i k, fin = .error (i, k) ∧ e = .returned (.tuple #[.slice none 0 0, .agg #[.int .i64 (k : Int), .int .i64 i]])))
/-- A slice of texts. -/
def ArgT (w : World) (v : Value) (L : List (List UInt8)) : Prop :=
  ∃ p cap, v = .slice p L.length cap ∧ ∀ j (h : j < L.length), ∃ a, p = some a ∧ w.cell? (a.add j) = some (.string (bsl L[j]))
theorem ArgT.below {w w' : World} {v : Value} {L : List (List UInt8)} (h : ArgT w v L) (hb : Below w.heap.size w w') : ArgT w' v L := by
  obtain ⟨p, cap, h1, h2⟩ := h
  refine ⟨p, cap, h1, fun j hj => ?_⟩
  obtain ⟨a, e, hc⟩ := h2 j hj
  exact ⟨a, e, (hb.cell (World.block_lt_of_cell? _ _ hc)).trans hc⟩
theorem ArgT.own {w : World} {B : Nat} {v : Value} {L : List (List UInt8)} (h : w.ownsRow B 9 1 v L.length (L.map fun s => .string (bsl s))) : ArgT w v L := by
  rcases Joins.ownsRow_forms h with ⟨rfl, hz⟩ | ⟨g, cap, rfl⟩
  · exact ⟨none, 0, by rw [hz], fun j hj => absurd hj (by omega)⟩
  · refine ⟨some ⟨g, 0, none⟩, cap, rfl, fun j hj => ⟨_, rfl, ?_⟩⟩
    exact h.cells rfl j (.string (bsl L[j])) (by rw [List.getElem?_map, List.getElem?_eq_getElem hj]; rfl)
/-- The document's Signed. -/
theorem signedOf_any (a : Int) (h0 : 0 ≤ a) (h1 : a < 4294967296) (w : World) :
    Calls Tryz.prog 56 #[.int .u32 a] w fun e w' => e = .returned (.int .i64 (wrap32 a)) ∧ w = w' := by
  by_cases h : 2147483648 ≤ a
  · have HE : Hid (wrap32 a = a - 4294967296) := by show _ = _; unfold wrap32; omega
    go_enter Tryz.func56, Tryz.ntmps56
    go_wp2
    go_ret
    exact ⟨(by rw [HE.out]; try rfl), rfl⟩
  · have h' : a < 2147483648 := by omega
    have HE : Hid (wrap32 a = a) := by show _ = _; unfold wrap32; omega
    go_enter Tryz.func56, Tryz.ntmps56
    go_wp2
    go_ret
    exact ⟨(by rw [HE.out]; try rfl), rfl⟩
theorem mask_hi (a : Int) (h0 : 0 ≤ a) (h1 : a < 4294967296) : bits .and .u32 a 4026531840 = a / 268435456 * 268435456 := by
  obtain ⟨n, rfl⟩ := Int.eq_ofNat_of_zero_le h0
  have e := u32_and_nat n 4026531840 (by omega) (by decide)
  have e2 : n &&& 4026531840 = n / 268435456 % 16 * 268435456 := and_field n 28 4
  refine e.trans ?_
  rw [e2]
  omega
end Go.Proofs.YtnppegldebocmaaGreatDoor
namespace Go.Proofs.YtnppegldebocmaaGreatDoor
open Go.RowKit
set_option linter.unusedVariables false
/-- AssembleOf's end. -/
noncomputable abbrev docQ (w : World) (fin : Except (Int × Nat) (List Int)) : Exit → Act → World → Prop :=
  bodyPost Tryz.prog Tryz.f23 (fun e w' => DocEnd w fin e w')
theorem findL_take (y : List UInt8) (ns : Labs) (k : Nat) (h : k < ns.length) : findL y (ns.take (k + 1)) = if (ns[k]'h).1 = y then some (ns[k]'h).2 else findL y (ns.take k) := by
  rw [List.take_succ_eq_append_getElem h, findL_snoc]
theorem findL_not {y : List UInt8} {ns : Labs} (h : ∀ k (hk : k < ns.length), (ns[k]'hk).1 ≠ y) : findL y ns = none := by
  have all : ∀ k, k ≤ ns.length → findL y (ns.take k) = none := by
    intro k
    induction k with
    | zero => intro _; rfl
    | succ k ih =>
      intro hk
      rw [findL_take y ns k (by omega), if_neg (h k (by omega))]
      exact ih (by omega)
  have := all ns.length (Nat.le_refl _)
  rwa [List.take_length] at this
theorem findL_has {y : List UInt8} {ns : Labs} {k : Nat} (h : k < ns.length) (e : (ns[k]'h).1 = y) : (findL y ns).isSome = true := by
  have all : ∀ m, k < m → m ≤ ns.length → (findL y (ns.take m)).isSome = true := by
    intro m
    induction m with
    | zero => intro h; omega
    | succ m ih =>
      intro h1 h2
      rw [findL_take y ns m (by omega)]
      by_cases em : (ns[m]'(by omega)).1 = y
      · rw [if_pos em]; rfl
      · rw [if_neg em]
        refine ih ?_ (by omega)
        by_cases ek : k = m
        · subst ek; exact absurd e em
        · omega
  have := all ns.length h (Nat.le_refl _)
  rwa [List.take_length] at this
theorem here_word (base : Int) (k : Nat) : (base + 4 * (k : Int)) % 4294967296 = hereZ base k := by
  unfold hereZ
  omega
theorem snoc_suffix {s : List UInt8} (h : Lib.hasSuffix s [58] = true) : ∃ nm, s = nm ++ [58] ∧ Lib.trimSuffix s [58] = nm := by
  have h2 := h
  unfold Lib.hasSuffix at h2
  rw [List.isSuffixOf_iff_suffix] at h2
  obtain ⟨nm, hnm⟩ := h2
  refine ⟨nm, hnm.symm, ?_⟩
  unfold Lib.trimSuffix
  rw [if_pos h, ← hnm]
  simp
set_option maxHeartbeats 4000000 in
set_option maxRecDepth 1000000 in
theorem doc_roundL (n cap : Nat) (a : Addr) (i : Nat) (s : List UInt8) (hl : s.length ≤ 100) (base : Int) (hb0 : 0 ≤ base) (hb1 : base < 4294967296) (ws : List Int) (ns : Labs) (qs : Waits) (hwl : ws.length < 1000) (hnl : ns.length < 1000)
    (w wr : World) (nv pv ov : Value) (fin : Except (Int × Nat) (List Int)) (HS : Hid (DocS w wr nv pv ov ns ws)) (hin : (i : Int) < (n : Int)) (hca : wr.cell? (a.add i) = some (.string (bsl s)))
    (HF : Hid (∀ k, stepE base (i : Int) ((ws, ns), qs) s = .error k → fin = .error ((i : Int), k))) (hk : Lib.hasSuffix s [58] = true)
    (v2 v3 v10 v11 v12 v13 v14 v15 v16 v17 v18 v19 v20 v21 v22 v23 v24 v25 v26 v27 v28 v29 v30 v31 v32 v33 v34 v35 v36 v37 v38 v39 v40 v41 v42 v43 v44 v45 v46 v47 v48 v49 v50 v51 v52 v53 v54 v55 v56 v57 v58 v59 v60 v61 v62 v63 v64 v65 v66 v67 v68 v69 v70 v71 v72 v73 v74 v75 v76 v77 v78 v79 v80 v81 v82 v83 v84 v85 v86 v87 v88 v89 v90 v91 v92 v93 v94 v95 v96 v97 v98 v99 v100 v101 v102 v103 v104 v105 v106 v107 v108 v109 v110 v111 v112 v113 v114 v115 v116 v117 v118 v119 v120 v121 v122 v123 v124 v125 v126 v127 v128 v129 v130 v131 v132 v133 v134 v135 v136 v137 v138 v139 v140 v141 v142 v143 v144 v145 v146 v147 v148 v149 v150 v151 v152 v153 v154 v155 v156 v157 v158 v159 v160 v161 v162 v163 v164 v165 v166 v167 v168 v169 v170 v171 v172 v173 v174 v175 v176 v177 v178 v179 v180 v181 v182 v183 v184 v185 v186 v187 v188 v189 v190 v191 v192 v193 v194 v195 v196 v197 v198 v199 v200 v201 v202 v203 v204 v205 v206 v207 v208 v209 v210 v211 v212 v213 v214 v215 v216 v217 v218 v219 v220 v221 v222 v223 v224 v225 v226 v227 v228 v229 v230 v231 v232 v233 v234 v235 v236 v237 v238 v239 v240 v241 v242 v243 v244 v245 v246 v247 v248 v249 : Value) (K : Act → World → Prop)
    (hK : ∀ (u6 u7 u8 u10 u11 u12 u13 u14 u15 u16 u17 u18 u19 u20 u47 u48 u49 u50 u51 u52 u53 u54 u55 u56 u57 u58 u59 u60 u61 u62 u63 u64 u65 u66 u67 u68 u69 u70 u71 u72 u73 u74 u75 u76 u77 u78 u79 u80 u81 u82 u83 u84 u85 u86 u87 u88 u89 u90 u91 u92 u93 u94 u95 u96 u97 u98 u99 u100 u101 u102 u103 u104 u105 u106 u107 u108 u109 u110 u111 u112 u113 u114 u115 u116 u117 u118 u119 u120 u121 u122 u123 u124 u125 u126 u127 u128 u129 u130 u131 u132 u133 u134 u135 u136 u137 u138 u139 u140 u141 u142 u143 : Value) (w' : World) (st' : StE), stepE base (i : Int) ((ws, ns), qs) s = .ok st' → Hid (DocS w w' u6 u7 u8 st'.1.2 st'.1.1) → K ⟨#[.slice (some a) n cap, .int .u32 base, v2, v3, .slice none 0 0, .pointer (some ⟨w.heap.size, 0, none⟩), u6, u7, u8, .int .i64 (i : Int), u10, u11, u12, u13, u14, u15, u16, u17, u18, u19, u20, v21, v22, v23, v24, v25, v26, v27, v28, v29, v30, v31, v32, v33, v34, v35, v36, v37, v38, v39, v40, v41, v42, v43, v44, v45, v46, u47, u48, u49, u50, u51, u52, u53, u54, u55, u56, u57, u58, u59, u60, u61, u62, u63, u64, u65, u66, u67, u68, u69, u70, u71, u72, u73, u74, u75, u76, u77, u78, u79, u80, u81, u82, u83, u84, u85, u86, u87, u88, u89, u90, u91, u92, u93, u94, u95, u96, u97, u98, u99, u100, u101, u102, u103, u104, u105, u106, u107, u108, u109, u110, u111, u112, u113, u114, u115, u116, u117, u118, u119, u120, u121, u122, u123, u124, u125, u126, u127, u128, u129, u130, u131, u132, u133, u134, u135, u136, u137, u138, u139, u140, u141, u142, u143, v144, v145, v146, v147, v148, v149, v150, v151, v152, v153, v154, v155, v156, v157, v158, v159, v160, v161, v162, v163, v164, v165, v166, v167, v168, v169, v170, v171, v172, v173, v174, v175, v176, v177, v178, v179, v180, v181, v182, v183, v184, v185, v186, v187, v188, v189, v190, v191, v192, v193, v194, v195, v196, v197, v198, v199, v200, v201, v202, v203, v204, v205, v206, v207, v208, v209, v210, v211, v212, v213, v214, v215, v216, v217, v218, v219, v220, v221, v222, v223, v224, v225, v226, v227, v228, v229, v230, v231, v232, v233, v234, v235, v236, v237, v238, v239, v240, v241, v242, v243, v244, v245, v246, v247, v248, v249], []⟩ w') :
    Code.wp Tryz.prog (Code.block 1 (blkOf 1 Tryz.f23)) (Exit.then K (docQ w fin)) ⟨#[.slice (some a) n cap, .int .u32 base, v2, v3, .slice none 0 0, .pointer (some ⟨w.heap.size, 0, none⟩), nv, pv, ov, .int .i64 (i : Int), v10, v11, v12, v13, v14, v15, v16, v17, v18, v19, v20, v21, v22, v23, v24, v25, v26, v27, v28, v29, v30, v31, v32, v33, v34, v35, v36, v37, v38, v39, v40, v41, v42, v43, v44, v45, v46, v47, v48, v49, v50, v51, v52, v53, v54, v55, v56, v57, v58, v59, v60, v61, v62, v63, v64, v65, v66, v67, v68, v69, v70, v71, v72, v73, v74, v75, v76, v77, v78, v79, v80, v81, v82, v83, v84, v85, v86, v87, v88, v89, v90, v91, v92, v93, v94, v95, v96, v97, v98, v99, v100, v101, v102, v103, v104, v105, v106, v107, v108, v109, v110, v111, v112, v113, v114, v115, v116, v117, v118, v119, v120, v121, v122, v123, v124, v125, v126, v127, v128, v129, v130, v131, v132, v133, v134, v135, v136, v137, v138, v139, v140, v141, v142, v143, v144, v145, v146, v147, v148, v149, v150, v151, v152, v153, v154, v155, v156, v157, v158, v159, v160, v161, v162, v163, v164, v165, v166, v167, v168, v169, v170, v171, v172, v173, v174, v175, v176, v177, v178, v179, v180, v181, v182, v183, v184, v185, v186, v187, v188, v189, v190, v191, v192, v193, v194, v195, v196, v197, v198, v199, v200, v201, v202, v203, v204, v205, v206, v207, v208, v209, v210, v211, v212, v213, v214, v215, v216, v217, v218, v219, v220, v221, v222, v223, v224, v225, v226, v227, v228, v229, v230, v231, v232, v233, v234, v235, v236, v237, v238, v239, v240, v241, v242, v243, v244, v245, v246, v247, v248, v249], []⟩ wr := by
  conv => arg 2; arg 2; whnf
  have HK := Lib.hid hK
  have hsz := bsl_size s
  have HLK := Lib.hid (fun W => lineKind_any s hl W)
  obtain ⟨nm, hnm, htr⟩ := snoc_suffix hk
  have hsl : s.length = nm.length + 1 := by rw [hnm]; simp
  have h2 : (s.length : Int) - 1 = (nm.length : Int) := by omega
  have h3 : (nm.length : Int) ≤ (s.length : Int) := by omega
  have h4 : nm.length ≤ 100 := by omega
  have h5 : (nm.length : Int) ≤ 100 := by omega
  have hex : (bsl s).extract 0 nm.length = bsl nm := by rw [ext_bsl, hnm]; simp
  have hkz : kindZ s = 108 := by unfold kindZ; rw [if_pos hk]
  rw [hkz] at HLK
  have HIL := Lib.hid (fun W => isLabel_any nm h4 W)
  have HSE : Hid (stepE base (i : Int) ((ws, ns), qs) s = if labelB nm = true then if (findL nm ns).isSome = true then .error 7 else .ok ((ws, ns ++ [(nm, hereZ base ws.length)]), qs) else .error 1) := by
    show _ = _
    unfold stepE
    rw [if_pos hk, htr]
  obtain ⟨nvp, nvc, hnv⟩ : ∃ p c, nv = .slice p ns.length c := by
    rcases Joins.ownsRow_forms HS.out.names with ⟨rfl, hz⟩ | ⟨g, cap, rfl⟩
    · exact ⟨_, _, by rw [hz]⟩
    · exact ⟨_, _, rfl⟩
  obtain ⟨ovp, ovc, hov⟩ : ∃ p c, ov = .slice p ws.length c := by
    rcases Joins.ownsRow_forms HS.out.words with ⟨rfl, hz⟩ | ⟨g, cap, rfl⟩
    · exact ⟨_, _, by rw [hz]⟩
    · exact ⟨_, _, rfl⟩
  subst hnv hov
  have hnl' : (ns.length : Int) < 1000 := by omega
  have hwl' : (ws.length : Int) < 1000 := by omega
  have hsize := HS.out.size
  obtain ⟨iS, hS1, hS2, hS3, hS4⟩ := info_parts Tryz.infoS
  obtain ⟨iU, hU1, hU2, hU3, hU4⟩ := info_parts Tryz.infoU
  clear hl hnm htr hk hK hkz hsl h4
  cases hlb : labelB nm with
  | false =>
    have HFIN : Hid (fin = .error ((i : Int), 1)) := HF.out 1 (by rw [HSE.out, hlb]; rfl)
    rw [hlb] at HIL
    clear HSE hlb
    go_wp2_with fail
    refine (HLK.out _).mono ?_
    rintro e w' ⟨rfl, rfl⟩
    go_wp2_with fail
    refine (HIL.out _).mono ?_
    rintro e w' ⟨rfl, rfl⟩
    have HG := Lib.hid (Duo.fill HS.out.res (.int .i64 (1)) (.int .i64 (i : Int)))
    have HFN := Lib.hid (below_fill2 HS.out.below (Nat.le_refl _) (.int .i64 (1)) (.int .i64 (i : Int)))
    obtain ⟨c0, c1, g0, g1⟩ := Duo.cells HS.out.res
    go_wp2_with fail
    all_goals
      change bodyPost _ _ _ _ _ (fill2 (wr) w.heap.size (.int .i64 (1)) (.int .i64 (i : Int)))
      clear c0 c1 g0 g1
      generalize fill2 (wr) w.heap.size (.int .i64 (1)) (.int .i64 (i : Int)) = W5 at *
      obtain ⟨q0, q1, _, _⟩ := Duo.cells HG.out
      exact bodyPost_ret (v := .tuple #[.slice none 0 0, .agg #[.int .i64 (1), .int .i64 (i : Int)]]) (by simp [results, Tryz.f23, go_sem, q0, q1]) rfl ⟨HFN.out, Or.inr ⟨_, _, HFIN.out, rfl⟩⟩
  | true =>
    rw [hlb] at HIL HSE
    clear hlb
    go_wp2_with fail
    refine (HLK.out _).mono ?_
    rintro e w' ⟨rfl, rfl⟩
    go_wp2_with fail
    refine (HIL.out _).mono ?_
    rintro e w' ⟨rfl, rfl⟩
    go_wp2_with fail
    go_loop [4, 13] (fun rv kv => ∃ k : Nat, k ≤ ns.length ∧ rv = .slice none 0 0 ∧ kv = .int .i64 (k : Int) ∧ Hid (∀ k' (h : k' < ns.length), k' < k → (ns[k']'h).1 ≠ nm)) (fun _ kv => ns.length - (intOf kv).toNat)
    case atStart => exact ⟨0, Nat.zero_le _, rfl, rfl, fun k' h h2 => absurd h2 (Nat.not_lt_zero k')⟩
    case round =>
      obtain ⟨k, hk, rfl, rfl, HN⟩ := hrel
      by_cases hlt : k < ns.length
      · obtain ⟨g, gc, hvf⟩ := Joins.ownsRow_form HS.out.names (by go_light; omega)
        have hcell : wr.cell? ⟨g, k, none⟩ = some (.string (bsl (ns[k]'hlt).1)) := by
          have := HS.out.names.cells (show (Value.slice nvp ns.length nvc).ownBlock = some g by rw [hvf]; rfl) k (.string (bsl (ns[k]'hlt).1)) (by rw [List.getElem?_map, List.getElem?_eq_getElem hlt]; rfl)
          rw [addr_add] at this
          exact this
        simp only [Value.slice.injEq] at hvf
        obtain ⟨hv1, _, rfl⟩ := hvf
        subst hv1
        have hkl : (k : Int) < (ns.length : Int) := by go_light; omega
        by_cases he : (ns[k]'hlt).1 = nm
        · have HFIN : Hid (fin = .error ((i : Int), 7)) := HF.out 7 (by rw [HSE.out, if_pos trivial, if_pos (findL_has hlt he)])
          rw [he] at hcell
          clear he HSE HN
          have HG := Lib.hid (Duo.fill HS.out.res (.int .i64 (7)) (.int .i64 (i : Int)))
          have HFN := Lib.hid (below_fill2 HS.out.below (Nat.le_refl _) (.int .i64 (7)) (.int .i64 (i : Int)))
          obtain ⟨c0, c1, g0, g1⟩ := Duo.cells HS.out.res
          go_wp2_with fail
          all_goals
            change bodyPost _ _ _ _ _ (fill2 (wr) w.heap.size (.int .i64 (7)) (.int .i64 (i : Int)))
            clear c0 c1 g0 g1
            generalize fill2 (wr) w.heap.size (.int .i64 (7)) (.int .i64 (i : Int)) = W5 at *
            obtain ⟨q0, q1, _, _⟩ := Duo.cells HG.out
            exact bodyPost_ret (v := .tuple #[.slice none 0 0, .agg #[.int .i64 (7), .int .i64 (i : Int)]]) (by simp [results, Tryz.f23, go_sem, q0, q1]) rfl ⟨HFN.out, Or.inr ⟨_, _, HFIN.out, rfl⟩⟩
        · have HNE := Lib.hid he
          have hne : ((bsl (ns[k]'hlt).1).toList == (bsl nm).toList) = false := by rw [bsl_l2, bsl_l2]; exact beq_eq_false_iff_ne.2 he
          clear he
          generalize bsl (ns[k]'hlt).1 = nk at *
          go_wp2_with fail
          go_round
          case rel =>
            refine ⟨k + 1, hlt, rfl, by go_num, fun k' h h2 => ?_⟩
            by_cases e : k' = k
            · subst e; exact HNE.out
            · exact HN.out k' h (by omega)
          case measure => go_light; simp [intOf]; omega
      · have hke : k = ns.length := by go_light; omega
        have HNO : Hid (findL nm ns = none) := findL_not (fun k' h => HN.out k' h (by omega))
        have HST : Hid (stepE base (i : Int) ((ws, ns), qs) s = .ok ((ws, ns ++ [(nm, hereZ base ws.length)]), qs)) := by show _ = _; rw [HSE.out, if_pos trivial, HNO.out]; rfl
        subst hke
        clear HN HNO HSE hlt hk
        go_wp2_with (at_builtin; refine wpList_append_lies _ rfl (.tmp 108) (.tmp 110) 40 rfl w.heap.size 9 iS (.string ByteArray.empty) 1 16 Tryz.underlying40 hS1 hS2 hS3 hS4 rfl (by decide) _ _ _ rfl (HS.out.names.alloc _) _ 1 1 [_] rfl rfl (cell_one_new _ _ _) (fun x hx => by simp at hx; subst hx; rfl) (by decide) (by unfold maxLen; omega) (by omega) (by simp; omega) _ rfl ?_)
        intro g0 cap0 w4 hown4 hgrow4 hat4 hlt4
        have hgr := (World.grownBy_alloc wr _ _).trans hgrow4
        have HG4 := Lib.hid hgr
        have HO4 := Lib.hid hown4
        have HP4 := Lib.hid (HS.out.name hgr)
        have hsize4 : w.heap.size ≤ w4.heap.size := HP4.out.2.2.2.2
        clear hown4 hgrow4 hat4 hlt4 hgr
        go_wp2_with fail
        refine (word_any (base + 4 * (ws.length : Int)) (by go_light; omega) (by go_light; omega) _).mono ?_
        rintro e w' ⟨rfl, rfl⟩
        go_wp2_with (at_builtin; refine wpList_append_lies _ rfl (.tmp 112) (.tmp 120) 39 rfl w.heap.size 22 iU (.int .u32 0) 1 4 Tryz.underlying39 hU1 hU2 hU3 hU4 rfl (by decide) _ _ _ rfl (HP4.out.2.1.alloc _) _ 1 1 [_] rfl rfl (cell_one_new _ _ _) (fun x hx => by simp at hx; subst hx; rfl) (by decide) (by unfold maxLen; omega) (by omega) (by simp; omega) _ rfl ?_)
        intro g1 cap1 w6 hown6 hgrow6 hat6 hlt6
        rw [here_word] at hown6
        have HS6 := Lib.hid (HS.out.label (x := (nm, hereZ base ws.length)) HG4.out HO4.out ((World.grownBy_alloc w4 _ _).trans hgrow6) hown6 (by rcases hat6 with e | e; exact Or.inl e; exact Or.inr ⟨g1, rfl, by rw [e]; simp⟩))
        clear hown6 hgrow6 hat6 hlt6
        go_wp2_with fail
        refine HK.out _ _ _ _ _ _ _ _ _ _ _ _ _ _ _ _ _ _ _ _ _ _ _ _ _ _ _ _ _ _ _ _ _ _ _ _ _ _ _ _ _ _ _ _ _ _ _ _ _ _ _ _ _ _ _ _ _ _ _ _ _ _ _ _ _ _ _ _ _ _ _ _ _ _ _ _ _ _ _ _ _ _ _ _ _ _ _ _ _ _ _ _ _ _ _ _ _ _ _ _ _ _ _ _ _ _ _ _ _ _ _ _ _ HST.out HS6
theorem wordLine_form {s : List UInt8} (hp : Lib.hasPrefix s [46, 119, 111, 114, 100] = true) : (s.length ≤ 6 → wordLine s = none) ∧ (∀ h : 6 < s.length, (s[5]'(by omega) ≠ 32 → wordLine s = none) ∧ (s[5]'(by omega) = 32 → wordLine s = wordB (s.drop 6))) := by
  have h2 := hp
  unfold Lib.hasPrefix at h2
  rw [List.isPrefixOf_iff_prefix] at h2
  obtain ⟨d, rfl⟩ := h2
  have ht : Lib.trimPrefix ([46, 119, 111, 114, 100] ++ d) [46, 119, 111, 114, 100] = d := by
    unfold Lib.trimPrefix
    rw [if_pos hp]
    simp
  have hw : wordLine ([46, 119, 111, 114, 100] ++ d) = if Lib.hasPrefix d [32] = true then wordB (Lib.trimPrefix d [32]) else none := by
    unfold wordLine
    rw [ht]
  rw [hw]
  cases d with
  | nil =>
    refine ⟨fun _ => ?_, fun h => absurd h (by simp)⟩
    rfl
  | cons c r =>
    have hc : Lib.hasPrefix (c :: r) [32] = (32 == c) := by simp [Lib.hasPrefix, List.isPrefixOf]
    have hd : ([46, 119, 111, 114, 100] ++ c :: r).drop 6 = r := rfl
    have h5 : ∀ h, ([46, 119, 111, 114, 100] ++ c :: r)[5]'h = c := fun h => rfl
    rw [hc, hd]
    by_cases e : c = 32
    · subst e
      have ht2 : Lib.trimPrefix (32 :: r) [32] = r := by simp [Lib.trimPrefix, Lib.hasPrefix, List.isPrefixOf]
      rw [ht2]
      refine ⟨fun h => ?_, fun h => ⟨fun h2 => absurd (h5 _) h2, fun _ => by simp⟩⟩
      have hr : r = [] := List.eq_nil_of_length_eq_zero (by have h7 := h; rw [List.length_append] at h7; simp only [List.length_cons, List.length_nil] at h7; omega)
      subst hr
      simp only [beq_self_eq_true, if_true]
      refine wordB_no fun u hu => ?_
      simp [Lib.parseUintB] at hu
    · have hne : (32 == c) = false := beq_eq_false_iff_ne.2 fun h => e h.symm
      rw [hne]
      exact ⟨fun _ => rfl, fun h => ⟨fun _ => rfl, fun h2 => absurd ((h5 _).symm.trans h2) e⟩⟩
set_option maxHeartbeats 4000000 in
set_option maxRecDepth 1000000 in
theorem doc_roundW (n cap : Nat) (a : Addr) (i : Nat) (s : List UInt8) (hl : s.length ≤ 100) (base : Int) (hb0 : 0 ≤ base) (hb1 : base < 4294967296) (ws : List Int) (ns : Labs) (qs : Waits) (hwl : ws.length < 1000) (hnl : ns.length < 1000)
    (w wr : World) (nv pv ov : Value) (fin : Except (Int × Nat) (List Int)) (HS : Hid (DocS w wr nv pv ov ns ws)) (hin : (i : Int) < (n : Int)) (hca : wr.cell? (a.add i) = some (.string (bsl s)))
    (HF : Hid (∀ k, stepE base (i : Int) ((ws, ns), qs) s = .error k → fin = .error ((i : Int), k))) (hk0 : Lib.hasSuffix s [58] = false) (hk : Lib.hasPrefix s [46, 119, 111, 114, 100] = true)
    (v2 v3 v10 v11 v12 v13 v14 v15 v16 v17 v18 v19 v20 v21 v22 v23 v24 v25 v26 v27 v28 v29 v30 v31 v32 v33 v34 v35 v36 v37 v38 v39 v40 v41 v42 v43 v44 v45 v46 v47 v48 v49 v50 v51 v52 v53 v54 v55 v56 v57 v58 v59 v60 v61 v62 v63 v64 v65 v66 v67 v68 v69 v70 v71 v72 v73 v74 v75 v76 v77 v78 v79 v80 v81 v82 v83 v84 v85 v86 v87 v88 v89 v90 v91 v92 v93 v94 v95 v96 v97 v98 v99 v100 v101 v102 v103 v104 v105 v106 v107 v108 v109 v110 v111 v112 v113 v114 v115 v116 v117 v118 v119 v120 v121 v122 v123 v124 v125 v126 v127 v128 v129 v130 v131 v132 v133 v134 v135 v136 v137 v138 v139 v140 v141 v142 v143 v144 v145 v146 v147 v148 v149 v150 v151 v152 v153 v154 v155 v156 v157 v158 v159 v160 v161 v162 v163 v164 v165 v166 v167 v168 v169 v170 v171 v172 v173 v174 v175 v176 v177 v178 v179 v180 v181 v182 v183 v184 v185 v186 v187 v188 v189 v190 v191 v192 v193 v194 v195 v196 v197 v198 v199 v200 v201 v202 v203 v204 v205 v206 v207 v208 v209 v210 v211 v212 v213 v214 v215 v216 v217 v218 v219 v220 v221 v222 v223 v224 v225 v226 v227 v228 v229 v230 v231 v232 v233 v234 v235 v236 v237 v238 v239 v240 v241 v242 v243 v244 v245 v246 v247 v248 v249 : Value) (K : Act → World → Prop)
    (hK : ∀ (u6 u7 u8 u10 u11 u12 u13 u14 u15 u16 u17 u18 u19 u20 u47 u48 u49 u50 u51 u52 u53 u54 u55 u56 u57 u58 u59 u60 u61 u62 u63 u64 u65 u66 u67 u68 u69 u70 u71 u72 u73 u74 u75 u76 u77 u78 u79 u80 u81 u82 u83 u84 u85 u86 u87 u88 u89 u90 u91 u92 u93 u94 u95 u96 u97 u98 u99 u100 u101 u102 u103 u104 u105 u106 u107 u108 u109 u110 u111 u112 u113 u114 u115 u116 u117 u118 u119 u120 u121 u122 u123 u124 u125 u126 u127 u128 u129 u130 u131 u132 u133 u134 u135 u136 u137 u138 u139 u140 u141 u142 u143 : Value) (w' : World) (st' : StE), stepE base (i : Int) ((ws, ns), qs) s = .ok st' → Hid (DocS w w' u6 u7 u8 st'.1.2 st'.1.1) → K ⟨#[.slice (some a) n cap, .int .u32 base, v2, v3, .slice none 0 0, .pointer (some ⟨w.heap.size, 0, none⟩), u6, u7, u8, .int .i64 (i : Int), u10, u11, u12, u13, u14, u15, u16, u17, u18, u19, u20, v21, v22, v23, v24, v25, v26, v27, v28, v29, v30, v31, v32, v33, v34, v35, v36, v37, v38, v39, v40, v41, v42, v43, v44, v45, v46, u47, u48, u49, u50, u51, u52, u53, u54, u55, u56, u57, u58, u59, u60, u61, u62, u63, u64, u65, u66, u67, u68, u69, u70, u71, u72, u73, u74, u75, u76, u77, u78, u79, u80, u81, u82, u83, u84, u85, u86, u87, u88, u89, u90, u91, u92, u93, u94, u95, u96, u97, u98, u99, u100, u101, u102, u103, u104, u105, u106, u107, u108, u109, u110, u111, u112, u113, u114, u115, u116, u117, u118, u119, u120, u121, u122, u123, u124, u125, u126, u127, u128, u129, u130, u131, u132, u133, u134, u135, u136, u137, u138, u139, u140, u141, u142, u143, v144, v145, v146, v147, v148, v149, v150, v151, v152, v153, v154, v155, v156, v157, v158, v159, v160, v161, v162, v163, v164, v165, v166, v167, v168, v169, v170, v171, v172, v173, v174, v175, v176, v177, v178, v179, v180, v181, v182, v183, v184, v185, v186, v187, v188, v189, v190, v191, v192, v193, v194, v195, v196, v197, v198, v199, v200, v201, v202, v203, v204, v205, v206, v207, v208, v209, v210, v211, v212, v213, v214, v215, v216, v217, v218, v219, v220, v221, v222, v223, v224, v225, v226, v227, v228, v229, v230, v231, v232, v233, v234, v235, v236, v237, v238, v239, v240, v241, v242, v243, v244, v245, v246, v247, v248, v249], []⟩ w') :
    Code.wp Tryz.prog (Code.block 1 (blkOf 1 Tryz.f23)) (Exit.then K (docQ w fin)) ⟨#[.slice (some a) n cap, .int .u32 base, v2, v3, .slice none 0 0, .pointer (some ⟨w.heap.size, 0, none⟩), nv, pv, ov, .int .i64 (i : Int), v10, v11, v12, v13, v14, v15, v16, v17, v18, v19, v20, v21, v22, v23, v24, v25, v26, v27, v28, v29, v30, v31, v32, v33, v34, v35, v36, v37, v38, v39, v40, v41, v42, v43, v44, v45, v46, v47, v48, v49, v50, v51, v52, v53, v54, v55, v56, v57, v58, v59, v60, v61, v62, v63, v64, v65, v66, v67, v68, v69, v70, v71, v72, v73, v74, v75, v76, v77, v78, v79, v80, v81, v82, v83, v84, v85, v86, v87, v88, v89, v90, v91, v92, v93, v94, v95, v96, v97, v98, v99, v100, v101, v102, v103, v104, v105, v106, v107, v108, v109, v110, v111, v112, v113, v114, v115, v116, v117, v118, v119, v120, v121, v122, v123, v124, v125, v126, v127, v128, v129, v130, v131, v132, v133, v134, v135, v136, v137, v138, v139, v140, v141, v142, v143, v144, v145, v146, v147, v148, v149, v150, v151, v152, v153, v154, v155, v156, v157, v158, v159, v160, v161, v162, v163, v164, v165, v166, v167, v168, v169, v170, v171, v172, v173, v174, v175, v176, v177, v178, v179, v180, v181, v182, v183, v184, v185, v186, v187, v188, v189, v190, v191, v192, v193, v194, v195, v196, v197, v198, v199, v200, v201, v202, v203, v204, v205, v206, v207, v208, v209, v210, v211, v212, v213, v214, v215, v216, v217, v218, v219, v220, v221, v222, v223, v224, v225, v226, v227, v228, v229, v230, v231, v232, v233, v234, v235, v236, v237, v238, v239, v240, v241, v242, v243, v244, v245, v246, v247, v248, v249], []⟩ wr := by
  conv => arg 2; arg 2; whnf
  have HK := Lib.hid hK
  have hsz := bsl_size s
  have HLK := Lib.hid (fun W => lineKind_any s hl W)
  have hkz : kindZ s = 119 := by unfold kindZ; rw [hk0, hk]; rfl
  rw [hkz] at HLK
  have HSE : Hid (stepE base (i : Int) ((ws, ns), qs) s = match wordLine s with | some u => .ok ((ws ++ [(u : Int)], ns), qs) | none => .error 1) := by
    show _ = _
    unfold stepE
    rw [hk0, if_neg (by decide), if_pos hk]
    cases wordLine s <;> rfl
  obtain ⟨f1, f2⟩ := wordLine_form hk
  obtain ⟨nvp, nvc, hnv⟩ : ∃ p c, nv = .slice p ns.length c := by
    rcases Joins.ownsRow_forms HS.out.names with ⟨rfl, hz⟩ | ⟨g, cap, rfl⟩
    · exact ⟨_, _, by rw [hz]⟩
    · exact ⟨_, _, rfl⟩
  obtain ⟨ovp, ovc, hov⟩ : ∃ p c, ov = .slice p ws.length c := by
    rcases Joins.ownsRow_forms HS.out.words with ⟨rfl, hz⟩ | ⟨g, cap, rfl⟩
    · exact ⟨_, _, by rw [hz]⟩
    · exact ⟨_, _, rfl⟩
  subst hnv hov
  have hnl' : (ns.length : Int) < 1000 := by omega
  have hwl' : (ws.length : Int) < 1000 := by omega
  have hsize := HS.out.size
  obtain ⟨iS, hS1, hS2, hS3, hS4⟩ := info_parts Tryz.infoS
  obtain ⟨iU, hU1, hU2, hU3, hU4⟩ := info_parts Tryz.infoU
  clear hk hk0 hkz hK
  by_cases h6 : s.length ≤ 6
  · have h6' : ¬ (6 : Int) < (s.length : Int) := by omega
    have HFIN : Hid (fin = .error ((i : Int), 1)) := HF.out 1 (by rw [HSE.out, f1 h6])
    clear HSE f1 f2 hl h6
    go_wp2_with fail
    refine (HLK.out _).mono ?_
    rintro e w' ⟨rfl, rfl⟩
    have HG := Lib.hid (Duo.fill HS.out.res (.int .i64 (1)) (.int .i64 (i : Int)))
    have HFN := Lib.hid (below_fill2 HS.out.below (Nat.le_refl _) (.int .i64 (1)) (.int .i64 (i : Int)))
    obtain ⟨c0, c1, g0, g1⟩ := Duo.cells HS.out.res
    go_wp2_with fail
    all_goals
      change bodyPost _ _ _ _ _ (fill2 (wr) w.heap.size (.int .i64 (1)) (.int .i64 (i : Int)))
      clear c0 c1 g0 g1
      generalize fill2 (wr) w.heap.size (.int .i64 (1)) (.int .i64 (i : Int)) = W5 at *
      obtain ⟨q0, q1, _, _⟩ := Duo.cells HG.out
      exact bodyPost_ret (v := .tuple #[.slice none 0 0, .agg #[.int .i64 (1), .int .i64 (i : Int)]]) (by simp [results, Tryz.f23, go_sem, q0, q1]) rfl ⟨HFN.out, Or.inr ⟨_, _, HFIN.out, rfl⟩⟩
  · have h6' : (6 : Int) < (s.length : Int) := by omega
    obtain ⟨f3, f4⟩ := f2 (by omega)
    have hb5 : 5 < (bsl s).size := by omega
    have hg5 : (bsl s)[5]'hb5 = s[5]'(by omega) := bsl_get s 5 _
    by_cases h32 : s[5]'(by omega) = 32
    · have hc32 : ((((bsl s)[5]'hb5).toNat : Int) == 32) = true := by rw [hg5, h32]; rfl
      have hex : (bsl s).extract 6 (bsl s).size = bsl (s.drop 6) := by rw [ext_bsl, hsz, List.take_of_length_le (by rw [List.length_drop]; omega)]
      have hex2 : (bsl s).extract 6 s.length = bsl (s.drop 6) := by rw [ext_bsl, List.take_of_length_le (by rw [List.length_drop]; omega)]
      have HWO := Lib.hid (fun W => wordOf_any (s.drop 6) (by rw [List.length_drop]; omega) W)
      rw [f4 h32] at HSE
      clear f1 f2 f3 f4 h32 hg5 h6 hl
      cases hwb : wordB (s.drop 6) with
      | none =>
        rw [wordI_none hwb] at HWO
        have HFIN : Hid (fin = .error ((i : Int), 1)) := HF.out 1 (by rw [HSE.out, hwb])
        clear HSE hwb
        generalize s.drop 6 = d at *
        go_wp2_with fail
        refine (HLK.out _).mono ?_
        rintro e w' ⟨rfl, rfl⟩
        go_wp2_with fail
        refine (HWO.out _).mono ?_
        rintro e w' ⟨rfl, rfl⟩
        have HG := Lib.hid (Duo.fill HS.out.res (.int .i64 (1)) (.int .i64 (i : Int)))
        have HFN := Lib.hid (below_fill2 HS.out.below (Nat.le_refl _) (.int .i64 (1)) (.int .i64 (i : Int)))
        obtain ⟨c0, c1, g0, g1⟩ := Duo.cells HS.out.res
        go_wp2_with fail
        all_goals
          change bodyPost _ _ _ _ _ (fill2 (wr) w.heap.size (.int .i64 (1)) (.int .i64 (i : Int)))
          clear c0 c1 g0 g1
          generalize fill2 (wr) w.heap.size (.int .i64 (1)) (.int .i64 (i : Int)) = W5 at *
          obtain ⟨q0, q1, _, _⟩ := Duo.cells HG.out
          exact bodyPost_ret (v := .tuple #[.slice none 0 0, .agg #[.int .i64 (1), .int .i64 (i : Int)]]) (by simp [results, Tryz.f23, go_sem, q0, q1]) rfl ⟨HFN.out, Or.inr ⟨_, _, HFIN.out, rfl⟩⟩
      | some u =>
        rw [wordI_some hwb] at HWO
        have HM : Hid ((u : Int) % 4294967296 = (u : Int)) := by show _ = _; have := (wordB_lt hwb).1; omega
        have hu0 : (0 : Int) ≤ (u : Int) := by omega
        have HST : Hid (stepE base (i : Int) ((ws, ns), qs) s = .ok ((ws ++ [(u : Int)], ns), qs)) := by show _ = _; rw [HSE.out, hwb]
        clear HSE hwb
        have HSX := HS
        generalize s.drop 6 = d at *
        go_wp2_with fail
        refine (HLK.out _).mono ?_
        rintro e w' ⟨rfl, rfl⟩
        go_wp2_with fail
        refine (HWO.out _).mono ?_
        rintro e w' ⟨rfl, rfl⟩
        go_wp2_with (at_builtin; refine wpList_append_lies _ rfl (.tmp 139) (.tmp 142) 39 rfl w.heap.size 22 iU (.int .u32 0) 1 4 Tryz.underlying39 hU1 hU2 hU3 hU4 rfl (by decide) _ _ _ rfl (HSX.out.words.alloc _) _ 1 1 [_] rfl rfl (cell_one_new _ _ _) (fun x hx => by simp at hx; subst hx; rfl) (by decide) (by unfold maxLen; omega) (by omega) (by simp; omega) _ rfl ?_)
        intro g0 cap0 w4 hown4 hgrow4 hat4 hlt4
        rw [HM.out] at hown4
        have HS4 := Lib.hid (HSX.out.word (x := (u : Int)) ((World.grownBy_alloc _ _ _).trans hgrow4) hown4 (by rcases hat4 with e | e; exact Or.inl e; exact Or.inr ⟨g0, rfl, by rw [e]; simp⟩))
        clear hown4 hgrow4 hat4 hlt4
        go_wp2_with fail
        refine HK.out _ _ _ _ _ _ _ _ _ _ _ _ _ _ _ _ _ _ _ _ _ _ _ _ _ _ _ _ _ _ _ _ _ _ _ _ _ _ _ _ _ _ _ _ _ _ _ _ _ _ _ _ _ _ _ _ _ _ _ _ _ _ _ _ _ _ _ _ _ _ _ _ _ _ _ _ _ _ _ _ _ _ _ _ _ _ _ _ _ _ _ _ _ _ _ _ _ _ _ _ _ _ _ _ _ _ _ _ _ _ _ _ _ HST.out HS4
    · have hc32 : ((((bsl s)[5]'hb5).toNat : Int) == 32) = false := by rw [hg5]; exact beq_eq_false_iff_ne.2 fun e => h32 (UInt8.toNat_inj.1 (by show _ = 32; omega))
      have HFIN : Hid (fin = .error ((i : Int), 1)) := HF.out 1 (by rw [HSE.out, f3 h32])
      clear HSE f1 f2 f3 f4 h32 hg5 h6 hl
      go_wp2_with fail
      refine (HLK.out _).mono ?_
      rintro e w' ⟨rfl, rfl⟩
      have HG := Lib.hid (Duo.fill HS.out.res (.int .i64 (1)) (.int .i64 (i : Int)))
      have HFN := Lib.hid (below_fill2 HS.out.below (Nat.le_refl _) (.int .i64 (1)) (.int .i64 (i : Int)))
      obtain ⟨c0, c1, g0, g1⟩ := Duo.cells HS.out.res
      go_wp2_with fail
      all_goals
        change bodyPost _ _ _ _ _ (fill2 (wr) w.heap.size (.int .i64 (1)) (.int .i64 (i : Int)))
        clear c0 c1 g0 g1
        generalize fill2 (wr) w.heap.size (.int .i64 (1)) (.int .i64 (i : Int)) = W5 at *
        obtain ⟨q0, q1, _, _⟩ := Duo.cells HG.out
        exact bodyPost_ret (v := .tuple #[.slice none 0 0, .agg #[.int .i64 (1), .int .i64 (i : Int)]]) (by simp [results, Tryz.f23, go_sem, q0, q1]) rfl ⟨HFN.out, Or.inr ⟨_, _, HFIN.out, rfl⟩⟩
theorem encOf_ins (x : InsN) (hg : goodI x) (hf : x.Fits) (W : World) : Calls Tryz.prog 9 #[insV x] W fun e w' => e = .returned (.tuple #[.int .u32 (encL x (fieldsB x.op.toNat)), .int .i64 0]) ∧ Below W.heap.size W w' := by
  obtain ⟨op, s, t, d, m⟩ := x
  obtain ⟨hr, hb⟩ := hg
  have h1 : 1 ≤ op := hr.1
  have h2 : op < 54 := hr.2
  obtain ⟨h3, _, _⟩ := good_parts ⟨op, s, t, d, m⟩ op.toNat (by show op = _; omega) hb
  exact encOf_good op s t d m op.toNat (by omega) (by omega) (by omega) hf.m0 hb W
theorem parseOf_B (t : List UInt8) (ht : t.length ≤ 100) (w : World) : Calls Tryz.prog 13 #[.string (bsl t)] w fun e w' => e = .returned (.tuple #[insV (parseB t).1, .int .i64 (((parseB t).2 : Nat) : Int)]) ∧ Below w.heap.size w w' := by
  rw [parse_ref]
  exact parseOf_walk t ht w
set_option maxHeartbeats 4000000 in
set_option maxRecDepth 1000000 in
theorem doc_roundI (n cap : Nat) (a : Addr) (i : Nat) (s : List UInt8) (hl : s.length ≤ 100) (base : Int) (hb0 : 0 ≤ base) (hb1 : base < 4294967296) (ws : List Int) (ns : Labs) (qs : Waits) (hwl : ws.length < 1000) (hnl : ns.length < 1000)
    (w wr : World) (nv pv ov : Value) (fin : Except (Int × Nat) (List Int)) (HS : Hid (DocS w wr nv pv ov ns ws)) (hin : (i : Int) < (n : Int)) (hca : wr.cell? (a.add i) = some (.string (bsl s)))
    (HF : Hid (∀ k, stepE base (i : Int) ((ws, ns), qs) s = .error k → fin = .error ((i : Int), k))) (hk0 : Lib.hasSuffix s [58] = false) (hk : Lib.hasPrefix s [46, 119, 111, 114, 100] = false)
    (v2 v3 v10 v11 v12 v13 v14 v15 v16 v17 v18 v19 v20 v21 v22 v23 v24 v25 v26 v27 v28 v29 v30 v31 v32 v33 v34 v35 v36 v37 v38 v39 v40 v41 v42 v43 v44 v45 v46 v47 v48 v49 v50 v51 v52 v53 v54 v55 v56 v57 v58 v59 v60 v61 v62 v63 v64 v65 v66 v67 v68 v69 v70 v71 v72 v73 v74 v75 v76 v77 v78 v79 v80 v81 v82 v83 v84 v85 v86 v87 v88 v89 v90 v91 v92 v93 v94 v95 v96 v97 v98 v99 v100 v101 v102 v103 v104 v105 v106 v107 v108 v109 v110 v111 v112 v113 v114 v115 v116 v117 v118 v119 v120 v121 v122 v123 v124 v125 v126 v127 v128 v129 v130 v131 v132 v133 v134 v135 v136 v137 v138 v139 v140 v141 v142 v143 v144 v145 v146 v147 v148 v149 v150 v151 v152 v153 v154 v155 v156 v157 v158 v159 v160 v161 v162 v163 v164 v165 v166 v167 v168 v169 v170 v171 v172 v173 v174 v175 v176 v177 v178 v179 v180 v181 v182 v183 v184 v185 v186 v187 v188 v189 v190 v191 v192 v193 v194 v195 v196 v197 v198 v199 v200 v201 v202 v203 v204 v205 v206 v207 v208 v209 v210 v211 v212 v213 v214 v215 v216 v217 v218 v219 v220 v221 v222 v223 v224 v225 v226 v227 v228 v229 v230 v231 v232 v233 v234 v235 v236 v237 v238 v239 v240 v241 v242 v243 v244 v245 v246 v247 v248 v249 : Value) (K : Act → World → Prop)
    (hK : ∀ (u6 u7 u8 u10 u11 u12 u13 u14 u15 u16 u17 u18 u19 u20 u47 u48 u49 u50 u51 u52 u53 u54 u55 u56 u57 u58 u59 u60 u61 u62 u63 u64 u65 u66 u67 u68 u69 u70 u71 u72 u73 u74 u75 u76 u77 u78 u79 u80 u81 u82 u83 u84 u85 u86 u87 u88 u89 u90 u91 u92 u93 u94 u95 u96 u97 u98 u99 u100 u101 u102 u103 u104 u105 u106 u107 u108 u109 u110 u111 u112 u113 u114 u115 u116 u117 u118 u119 u120 u121 u122 u123 u124 u125 u126 u127 u128 u129 u130 u131 u132 u133 u134 u135 u136 u137 u138 u139 u140 u141 u142 u143 : Value) (w' : World) (st' : StE), stepE base (i : Int) ((ws, ns), qs) s = .ok st' → Hid (DocS w w' u6 u7 u8 st'.1.2 st'.1.1) → K ⟨#[.slice (some a) n cap, .int .u32 base, v2, v3, .slice none 0 0, .pointer (some ⟨w.heap.size, 0, none⟩), u6, u7, u8, .int .i64 (i : Int), u10, u11, u12, u13, u14, u15, u16, u17, u18, u19, u20, v21, v22, v23, v24, v25, v26, v27, v28, v29, v30, v31, v32, v33, v34, v35, v36, v37, v38, v39, v40, v41, v42, v43, v44, v45, v46, u47, u48, u49, u50, u51, u52, u53, u54, u55, u56, u57, u58, u59, u60, u61, u62, u63, u64, u65, u66, u67, u68, u69, u70, u71, u72, u73, u74, u75, u76, u77, u78, u79, u80, u81, u82, u83, u84, u85, u86, u87, u88, u89, u90, u91, u92, u93, u94, u95, u96, u97, u98, u99, u100, u101, u102, u103, u104, u105, u106, u107, u108, u109, u110, u111, u112, u113, u114, u115, u116, u117, u118, u119, u120, u121, u122, u123, u124, u125, u126, u127, u128, u129, u130, u131, u132, u133, u134, u135, u136, u137, u138, u139, u140, u141, u142, u143, v144, v145, v146, v147, v148, v149, v150, v151, v152, v153, v154, v155, v156, v157, v158, v159, v160, v161, v162, v163, v164, v165, v166, v167, v168, v169, v170, v171, v172, v173, v174, v175, v176, v177, v178, v179, v180, v181, v182, v183, v184, v185, v186, v187, v188, v189, v190, v191, v192, v193, v194, v195, v196, v197, v198, v199, v200, v201, v202, v203, v204, v205, v206, v207, v208, v209, v210, v211, v212, v213, v214, v215, v216, v217, v218, v219, v220, v221, v222, v223, v224, v225, v226, v227, v228, v229, v230, v231, v232, v233, v234, v235, v236, v237, v238, v239, v240, v241, v242, v243, v244, v245, v246, v247, v248, v249], []⟩ w') :
    Code.wp Tryz.prog (Code.block 1 (blkOf 1 Tryz.f23)) (Exit.then K (docQ w fin)) ⟨#[.slice (some a) n cap, .int .u32 base, v2, v3, .slice none 0 0, .pointer (some ⟨w.heap.size, 0, none⟩), nv, pv, ov, .int .i64 (i : Int), v10, v11, v12, v13, v14, v15, v16, v17, v18, v19, v20, v21, v22, v23, v24, v25, v26, v27, v28, v29, v30, v31, v32, v33, v34, v35, v36, v37, v38, v39, v40, v41, v42, v43, v44, v45, v46, v47, v48, v49, v50, v51, v52, v53, v54, v55, v56, v57, v58, v59, v60, v61, v62, v63, v64, v65, v66, v67, v68, v69, v70, v71, v72, v73, v74, v75, v76, v77, v78, v79, v80, v81, v82, v83, v84, v85, v86, v87, v88, v89, v90, v91, v92, v93, v94, v95, v96, v97, v98, v99, v100, v101, v102, v103, v104, v105, v106, v107, v108, v109, v110, v111, v112, v113, v114, v115, v116, v117, v118, v119, v120, v121, v122, v123, v124, v125, v126, v127, v128, v129, v130, v131, v132, v133, v134, v135, v136, v137, v138, v139, v140, v141, v142, v143, v144, v145, v146, v147, v148, v149, v150, v151, v152, v153, v154, v155, v156, v157, v158, v159, v160, v161, v162, v163, v164, v165, v166, v167, v168, v169, v170, v171, v172, v173, v174, v175, v176, v177, v178, v179, v180, v181, v182, v183, v184, v185, v186, v187, v188, v189, v190, v191, v192, v193, v194, v195, v196, v197, v198, v199, v200, v201, v202, v203, v204, v205, v206, v207, v208, v209, v210, v211, v212, v213, v214, v215, v216, v217, v218, v219, v220, v221, v222, v223, v224, v225, v226, v227, v228, v229, v230, v231, v232, v233, v234, v235, v236, v237, v238, v239, v240, v241, v242, v243, v244, v245, v246, v247, v248, v249], []⟩ wr := by
  conv => arg 2; arg 2; whnf
  have HK := Lib.hid hK
  have hsz := bsl_size s
  have HLK := Lib.hid (fun W => lineKind_any s hl W)
  have hkz : kindZ s = 105 := by unfold kindZ; rw [hk0, hk]; rfl
  rw [hkz] at HLK
  have HLO := Lib.hid (fun W => labelOf_any s hl W)
  obtain ⟨nvp, nvc, hnv⟩ : ∃ p c, nv = .slice p ns.length c := by
    rcases Joins.ownsRow_forms HS.out.names with ⟨rfl, hz⟩ | ⟨g, cap, rfl⟩
    · exact ⟨_, _, by rw [hz]⟩
    · exact ⟨_, _, rfl⟩
  obtain ⟨ovp, ovc, hov⟩ : ∃ p c, ov = .slice p ws.length c := by
    rcases Joins.ownsRow_forms HS.out.words with ⟨rfl, hz⟩ | ⟨g, cap, rfl⟩
    · exact ⟨_, _, by rw [hz]⟩
    · exact ⟨_, _, rfl⟩
  subst hnv hov
  have hnl' : (ns.length : Int) < 1000 := by omega
  have hwl' : (ws.length : Int) < 1000 := by omega
  have hsize := HS.out.size
  obtain ⟨iS, hS1, hS2, hS3, hS4⟩ := info_parts Tryz.infoS
  obtain ⟨iU, hU1, hU2, hU3, hU4⟩ := info_parts Tryz.infoU
  cases hlb : labelledB s with
  | none =>
    have HSE : Hid (stepE base (i : Int) ((ws, ns), qs) s = if (parseB s).2 = 0 then .ok ((ws ++ [encL (parseB s).1 (fieldsB (parseB s).1.op.toNat)], ns), qs) else .error (parseB s).2) := by
      show _ = _
      unfold stepE
      rw [hk0, if_neg (by decide), hk, if_neg (by decide), hlb]
    have hda : docAt s = -1 := by unfold docAt; rw [hlb]
    rw [hda] at HLO
    have HPA := Lib.hid (fun W => parseOf_B s hl W)
    clear hk hk0 hkz hK hlb hda hl
    go_wp2_with fail
    refine (HLK.out _).mono ?_
    rintro e w' ⟨rfl, rfl⟩
    go_wp2_with fail
    refine (HLO.out _).mono ?_
    rintro e w1 ⟨rfl, hb1'⟩
    have HS1 := Lib.hid (HS.out.trans hb1')
    clear hb1'
    cases hz : (parseB s).2 == 0 with
    | false =>
      have hz' : (parseB s).2 ≠ 0 := by simpa using hz
      have HFIN : Hid (fin = .error ((i : Int), (parseB s).2)) := HF.out _ (by rw [HSE.out, if_neg hz'])
      have he0 : (0 : Int) < (((parseB s).2 : Nat) : Int) := by omega
      clear HSE hz hz'
      generalize (parseB s).2 = pe at *
      generalize (parseB s).1 = px at *
      go_wp2_with fail
      refine (HPA.out _).mono ?_
      rintro e w2 ⟨rfl, hb2⟩
      have HS2 := Lib.hid ((HS1.out.trans hb2).trans ((Below.refl w2.heap.size w2).alloc (Nat.le_refl _) (.cells #[.int .i64 px.op, .int .i64 px.s, .int .i64 px.t, .int .i64 px.d, .int .u32 px.imm] 24)))
      clear hb2
      have HG := Lib.hid (Duo.fill HS2.out.res (.int .i64 ((pe : Int))) (.int .i64 (i : Int)))
      have HFN := Lib.hid (below_fill2 HS2.out.below (Nat.le_refl _) (.int .i64 ((pe : Int))) (.int .i64 (i : Int)))
      obtain ⟨c0, c1, g0, g1⟩ := Duo.cells HS2.out.res
      go_wp2_with fail
      all_goals
        change bodyPost _ _ _ _ _ (fill2 ((w2.alloc (.cells #[.int .i64 px.op, .int .i64 px.s, .int .i64 px.t, .int .i64 px.d, .int .u32 px.imm] 24))) w.heap.size (.int .i64 ((pe : Int))) (.int .i64 (i : Int)))
        clear c0 c1 g0 g1
        generalize fill2 ((w2.alloc (.cells #[.int .i64 px.op, .int .i64 px.s, .int .i64 px.t, .int .i64 px.d, .int .u32 px.imm] 24))) w.heap.size (.int .i64 ((pe : Int))) (.int .i64 (i : Int)) = W5 at *
        obtain ⟨q0, q1, _, _⟩ := Duo.cells HG.out
        exact bodyPost_ret (v := .tuple #[.slice none 0 0, .agg #[.int .i64 ((pe : Int)), .int .i64 (i : Int)]]) (by simp [results, Tryz.f23, go_sem, q0, q1]) rfl ⟨HFN.out, Or.inr ⟨_, _, HFIN.out, rfl⟩⟩
    | true =>
      have hz' : (parseB s).2 = 0 := by simpa using hz
      obtain ⟨hgx, hfx, _⟩ := text_parse s (parseB s).1 (by rw [← hz'])
      have HST : Hid (stepE base (i : Int) ((ws, ns), qs) s = .ok ((ws ++ [encL (parseB s).1 (fieldsB (parseB s).1.op.toNat)], ns), qs)) := by show _ = _; rw [HSE.out, if_pos hz']
      have HEN : Hid (∀ W, Calls Tryz.prog 9 #[insV (parseB s).1] W fun e w' => e = .returned (.tuple #[.int .u32 (encL (parseB s).1 (fieldsB (parseB s).1.op.toNat)), .int .i64 0]) ∧ Below W.heap.size W w') := fun W => encOf_ins (parseB s).1 hgx hfx W
      rw [hz'] at HPA
      clear HSE hz hz' hgx hfx
      generalize encL (parseB s).1 (fieldsB (parseB s).1.op.toNat) = ew at *
      generalize (parseB s).1 = px at *
      go_wp2_with fail
      refine (HPA.out _).mono ?_
      rintro e w2 ⟨rfl, hb2⟩
      have HS2 := Lib.hid ((HS1.out.trans hb2).trans ((Below.refl w2.heap.size w2).alloc (Nat.le_refl _) (.cells #[.int .i64 px.op, .int .i64 px.s, .int .i64 px.t, .int .i64 px.d, .int .u32 px.imm] 24)))
      clear hb2
      go_wp2_with fail
      refine (HEN.out _).mono ?_
      rintro e w3 ⟨rfl, hb3⟩
      have HSX := Lib.hid (HS2.out.trans hb3)
      have hsize3 := HSX.out.size
      clear hb3
      go_wp2_with (at_builtin; refine wpList_append_lies _ rfl (.tmp 77) (.tmp 79) 39 rfl w.heap.size 22 iU (.int .u32 0) 1 4 Tryz.underlying39 hU1 hU2 hU3 hU4 rfl (by decide) _ _ _ rfl (HSX.out.words.alloc _) _ 1 1 [_] rfl rfl (cell_one_new _ _ _) (fun x hx => by simp at hx; subst hx; rfl) (by decide) (by unfold maxLen; omega) (by omega) (by simp; omega) _ rfl ?_)
      intro g0 cap0 w4 hown4 hgrow4 hat4 hlt4
      have HS4 := Lib.hid (HSX.out.word (x := ew) ((World.grownBy_alloc _ _ _).trans hgrow4) hown4 (by rcases hat4 with e | e; exact Or.inl e; exact Or.inr ⟨g0, rfl, by rw [e]; simp⟩))
      clear hown4 hgrow4 hat4 hlt4
      go_wp2_with fail
      refine HK.out _ _ _ _ _ _ _ _ _ _ _ _ _ _ _ _ _ _ _ _ _ _ _ _ _ _ _ _ _ _ _ _ _ _ _ _ _ _ _ _ _ _ _ _ _ _ _ _ _ _ _ _ _ _ _ _ _ _ _ _ _ _ _ _ _ _ _ _ _ _ _ _ _ _ _ _ _ _ _ _ _ _ _ _ _ _ _ _ _ _ _ _ _ _ _ _ _ _ _ _ _ _ _ _ _ _ _ _ _ _ _ _ _ HST.out HS4
  | some r =>
    obtain ⟨l, y⟩ := r
    obtain ⟨k, hks, hda, hll, hy⟩ := labelled_at hlb
    have hlen : l.length ≤ s.length := (labelled_len hlb).1
    have HSE : Hid (stepE base (i : Int) ((ws, ns), qs) s = if (parseB l).2 = 0 then .ok ((ws ++ [encL (parseB l).1 (fieldsB (parseB l).1.op.toNat)], ns), qs ++ [((i : Int), (ws.length : Int), y)]) else .error (parseB l).2) := by
      show _ = _
      unfold stepE
      rw [hk0, if_neg (by decide), hk, if_neg (by decide), hlb]
    rw [hda] at HLO
    have HPA := Lib.hid (fun W => parseOf_B l (by omega) W)
    have hks' : (k : Int) ≤ (s.length : Int) := by omega
    have hk00 : (0 : Int) ≤ (k : Int) := by omega
    have hex : (bsl s).extract 0 k = bsl (s.take k) := by rw [ext_bsl]; simp
    have hcat : bsl (s.take k) ++ ⟨#[48]⟩ = bsl l := by rw [hll]; exact bsl_app (s.take k) [48]
    have hskz : (bsl (s.take k)).size ≤ 100 := by rw [bsl_size, List.length_take]; omega
    clear hk hk0 hkz hK hlb hda hl hll hlen hy
    generalize bsl (s.take k) = sk at *
    go_wp2_with fail
    refine (HLK.out _).mono ?_
    rintro e w' ⟨rfl, rfl⟩
    go_wp2_with fail
    refine (HLO.out _).mono ?_
    rintro e w1 ⟨rfl, hb1'⟩
    have HS1 := Lib.hid (HS.out.trans hb1')
    clear hb1'
    cases hz : (parseB l).2 == 0 with
    | false =>
      have hz' : (parseB l).2 ≠ 0 := by simpa using hz
      have HFIN : Hid (fin = .error ((i : Int), (parseB l).2)) := HF.out _ (by rw [HSE.out, if_neg hz'])
      have he0 : (0 : Int) < (((parseB l).2 : Nat) : Int) := by omega
      clear HSE hz hz'
      generalize (parseB l).2 = pe at *
      generalize (parseB l).1 = px at *
      go_wp2_with fail
      refine (HPA.out _).mono ?_
      rintro e w2 ⟨rfl, hb2⟩
      have HS2 := Lib.hid ((HS1.out.trans hb2).trans ((Below.refl w2.heap.size w2).alloc (Nat.le_refl _) (.cells #[.int .i64 px.op, .int .i64 px.s, .int .i64 px.t, .int .i64 px.d, .int .u32 px.imm] 24)))
      clear hb2
      have HG := Lib.hid (Duo.fill HS2.out.res (.int .i64 ((pe : Int))) (.int .i64 (i : Int)))
      have HFN := Lib.hid (below_fill2 HS2.out.below (Nat.le_refl _) (.int .i64 ((pe : Int))) (.int .i64 (i : Int)))
      obtain ⟨c0, c1, g0, g1⟩ := Duo.cells HS2.out.res
      go_wp2_with fail
      all_goals
        change bodyPost _ _ _ _ _ (fill2 ((w2.alloc (.cells #[.int .i64 px.op, .int .i64 px.s, .int .i64 px.t, .int .i64 px.d, .int .u32 px.imm] 24))) w.heap.size (.int .i64 ((pe : Int))) (.int .i64 (i : Int)))
        clear c0 c1 g0 g1
        generalize fill2 ((w2.alloc (.cells #[.int .i64 px.op, .int .i64 px.s, .int .i64 px.t, .int .i64 px.d, .int .u32 px.imm] 24))) w.heap.size (.int .i64 ((pe : Int))) (.int .i64 (i : Int)) = W5 at *
        obtain ⟨q0, q1, _, _⟩ := Duo.cells HG.out
        exact bodyPost_ret (v := .tuple #[.slice none 0 0, .agg #[.int .i64 ((pe : Int)), .int .i64 (i : Int)]]) (by simp [results, Tryz.f23, go_sem, q0, q1]) rfl ⟨HFN.out, Or.inr ⟨_, _, HFIN.out, rfl⟩⟩
    | true =>
      have hz' : (parseB l).2 = 0 := by simpa using hz
      obtain ⟨hgx, hfx, _⟩ := text_parse l (parseB l).1 (by rw [← hz'])
      have HST : Hid (stepE base (i : Int) ((ws, ns), qs) s = .ok ((ws ++ [encL (parseB l).1 (fieldsB (parseB l).1.op.toNat)], ns), qs ++ [((i : Int), (ws.length : Int), y)])) := by show _ = _; rw [HSE.out, if_pos hz']
      have HEN : Hid (∀ W, Calls Tryz.prog 9 #[insV (parseB l).1] W fun e w' => e = .returned (.tuple #[.int .u32 (encL (parseB l).1 (fieldsB (parseB l).1.op.toNat)), .int .i64 0]) ∧ Below W.heap.size W w') := fun W => encOf_ins (parseB l).1 hgx hfx W
      rw [hz'] at HPA
      clear HSE hz hz' hgx hfx
      generalize encL (parseB l).1 (fieldsB (parseB l).1.op.toNat) = ew at *
      generalize (parseB l).1 = px at *
      go_wp2_with fail
      refine (HPA.out _).mono ?_
      rintro e w2 ⟨rfl, hb2⟩
      have HS2 := Lib.hid ((HS1.out.trans hb2).trans ((Below.refl w2.heap.size w2).alloc (Nat.le_refl _) (.cells #[.int .i64 px.op, .int .i64 px.s, .int .i64 px.t, .int .i64 px.d, .int .u32 px.imm] 24)))
      clear hb2
      go_wp2_with fail
      refine (HEN.out _).mono ?_
      rintro e w3 ⟨rfl, hb3⟩
      have HSX := Lib.hid (HS2.out.trans hb3)
      have hsize3 := HSX.out.size
      clear hb3
      go_wp2_with (at_builtin; refine wpList_append_lies _ rfl (.tmp 77) (.tmp 79) 39 rfl w.heap.size 22 iU (.int .u32 0) 1 4 Tryz.underlying39 hU1 hU2 hU3 hU4 rfl (by decide) _ _ _ rfl (HSX.out.words.alloc _) _ 1 1 [_] rfl rfl (cell_one_new _ _ _) (fun x hx => by simp at hx; subst hx; rfl) (by decide) (by unfold maxLen; omega) (by omega) (by simp; omega) _ rfl ?_)
      intro g0 cap0 w4 hown4 hgrow4 hat4 hlt4
      have HS4 := Lib.hid (HSX.out.word (x := ew) ((World.grownBy_alloc _ _ _).trans hgrow4) hown4 (by rcases hat4 with e | e; exact Or.inl e; exact Or.inr ⟨g0, rfl, by rw [e]; simp⟩))
      clear hown4 hgrow4 hat4 hlt4
      go_wp2_with fail
      refine HK.out _ _ _ _ _ _ _ _ _ _ _ _ _ _ _ _ _ _ _ _ _ _ _ _ _ _ _ _ _ _ _ _ _ _ _ _ _ _ _ _ _ _ _ _ _ _ _ _ _ _ _ _ _ _ _ _ _ _ _ _ _ _ _ _ _ _ _ _ _ _ _ _ _ _ _ _ _ _ _ _ _ _ _ _ _ _ _ _ _ _ _ _ _ _ _ _ _ _ _ _ _ _ _ _ _ _ _ _ _ _ _ _ _ HST.out HS4
end Go.Proofs.YtnppegldebocmaaGreatDoor
namespace Go.Proofs.YtnppegldebocmaaGreatDoor
open Go.RowKit
set_option linter.unusedVariables false
set_option linter.unusedSimpArgs false
def toZ (o : Option Int) : Int := match o with | some z => z | none => -1
theorem behind_word (base : Int) (k : Nat) : (base + 4 * ((k : Int) + 1)) % 4294967296 = ((base + 4 * (k : Int)) % 4294967296 + 4) % 4294967296 := by omega
theorem sd_range (v : Int) (h0 : 0 ≤ v) (h1 : v < 4294967296) : -2147483648 ≤ wrap32 v ∧ wrap32 v ≤ 2147483647 := by unfold wrap32; omega
theorem tdiv4_range (v : Int) (h0 : -2147483648 ≤ v) (h1 : v ≤ 2147483647) : -536870912 ≤ v.tdiv 4 ∧ v.tdiv 4 ≤ 536870911 := by
  by_cases h : 0 ≤ v
  · rw [Int.tdiv_eq_ediv_of_nonneg h]; omega
  · have hx : v.tdiv 4 = -((-v) / 4) := by rw [← Int.tdiv_eq_ediv_of_nonneg (show 0 ≤ -v by omega), Int.neg_tdiv, Int.neg_neg]
    rw [hx]; omega
theorem brNew_i {base t : Int} {k : Nat} {x : InsN} (hf : fieldsB x.op.toNat ≠ [106]) {bh sd : Int} (hbh : ((base + 4 * (k : Int)) % 4294967296 + 4) % 4294967296 = bh) (hsd : wrap32 ((t - bh) % 4294967296) = sd) :
    brNew base t k x = if sd.tdiv 4 < -32768 ∨ 32767 < sd.tdiv 4 then none else some { x with imm := sd.tdiv 4 % 65536 } := by
  have hr := sd_range ((t - bh) % 4294967296) (by omega) (by omega)
  rw [hsd] at hr
  have hr2 := tdiv4_range sd hr.1 hr.2
  have e1 : wrap64 sd = sd := IntWalk.wrap64_in _ ⟨by omega, by omega⟩
  have e2 : wrap64 (sd.tdiv 4) = sd.tdiv 4 := IntWalk.wrap64_in _ ⟨by omega, by omega⟩
  unfold brNew
  rw [if_neg hf, hbh, hsd, e1, e2, and_imm]
theorem brNew_j {base t : Int} {k : Nat} {x : InsN} (hf : fieldsB x.op.toNat = [106]) {bh : Int} (hbh : ((base + 4 * (k : Int)) % 4294967296 + 4) % 4294967296 = bh) (t0 : 0 ≤ t) (t1 : t < 4294967296) :
    brNew base t k x = if t / 268435456 = bh / 268435456 then some { x with imm := t / 4 % 67108864 } else none := by
  unfold brNew
  rw [if_pos hf, hbh, mask_hi t t0 t1, mask_hi bh (by omega) (by omega)]
  have h26 : bits .and .u32 (t / 4) 67108863 = t / 4 % 67108864 := and_26 (t / 4) (by omega) (by omega)
  rw [h26]
  by_cases h : t / 268435456 = bh / 268435456
  · rw [if_pos h, if_pos (by rw [h])]
  · rw [if_neg h, if_neg (by omega)]
set_option maxHeartbeats 4000000 in
set_option maxRecDepth 1000000 in
theorem doc_round2 (n cap : Nat) (a : Addr) (i : Nat) (s : List UInt8) (L' : List (List UInt8)) (hl : s.length ≤ 100) (base : Int) (hb0 : 0 ≤ base) (hb1 : base < 4294967296) (k : Nat) (ws : List Int) (ns : Labs) (hk : k + wordsL (s :: L') = ws.length) (hwl : ws.length < 1000) (hnl : ns.length < 1000)
    (HNR : Hid (∀ x ∈ ns, 0 ≤ x.2 ∧ x.2 < 4294967296)) (w wr : World) (nv pv ov : Value) (fin : Except (Int × Nat) (List Int)) (HS : Hid (DocS w wr nv pv ov ns ws)) (hin : (i : Int) < (n : Int)) (hca : wr.cell? (a.add i) = some (.string (bsl s)))
    (HF : Hid (settleE base ns (waitsL (i : Int) k (s :: L')) ws = fin)) (HW : Hid (∀ q ∈ waitsL (i : Int) k (s :: L'), WaitOK ws q))
    (v2 v3 v9 v10 v11 v12 v13 v14 v15 v16 v17 v18 v19 v20 v23 v24 v25 v26 v27 v28 v29 v30 v31 v32 v33 v34 v35 v36 v37 v38 v39 v40 v41 v42 v43 v44 v45 v46 v47 v48 v49 v50 v51 v52 v53 v54 v55 v56 v57 v58 v59 v60 v61 v62 v63 v64 v65 v66 v67 v68 v69 v70 v71 v72 v73 v74 v75 v76 v77 v78 v79 v80 v81 v82 v83 v84 v85 v86 v87 v88 v89 v90 v91 v92 v93 v94 v95 v96 v97 v98 v99 v100 v101 v102 v103 v104 v105 v106 v107 v108 v109 v110 v111 v112 v113 v114 v115 v116 v117 v118 v119 v120 v121 v122 v123 v124 v125 v126 v127 v128 v129 v130 v131 v132 v133 v134 v135 v136 v137 v138 v139 v140 v141 v142 v143 v144 v145 v146 v147 v148 v149 v150 v151 v152 v153 v154 v155 v156 v157 v158 v159 v160 v161 v162 v163 v164 v165 v166 v167 v168 v169 v170 v171 v172 v173 v174 v175 v176 v177 v178 v179 v180 v181 v182 v183 v184 v185 v186 v187 v188 v189 v190 v191 v192 v193 v194 v195 v196 v197 v198 v199 v200 v201 v202 v203 v204 v205 v206 v207 v208 v209 v210 v211 v212 v213 v214 v215 v216 v217 v218 v219 v220 v221 v222 v223 v224 v225 v226 v227 v228 v229 v230 v231 v232 v233 v234 v235 v236 v237 v238 v239 v240 v241 v242 v243 v244 v245 v246 v247 v248 v249 : Value) (K : Act → World → Prop)
    (hK : ∀ (u21 u23 u24 u25 u26 u27 u28 u29 u30 u31 u32 u150 u151 u152 u153 u154 u155 u156 u157 u158 u159 u160 u161 u162 u163 u164 u165 u166 u167 u168 u169 u170 u171 u172 u173 u174 u175 u176 u177 u178 u179 u180 u181 u182 u183 u184 u185 u186 u187 u188 u189 u190 u191 u192 u193 u194 u195 u196 u197 u198 u199 u200 u201 u202 u203 u204 u205 u206 u207 u208 u209 u210 u211 u212 u213 u214 u215 u216 u217 u218 u219 u220 u221 u222 u223 u224 u225 u226 u227 u228 u229 u230 u231 u232 u233 u234 u235 u236 u237 u238 u239 u240 u241 u242 u243 u244 u245 u246 u247 : Value) (w' : World) (k' : Nat) (ws' : List Int), u21 = .int .i64 (k' : Int) → ws'.length = ws.length → k' + wordsL L' = ws.length → Hid (DocS w w' nv pv ov ns ws') → Hid (settleE base ns (waitsL ((i : Int) + 1) k' L') ws' = fin) → Hid (∀ q ∈ waitsL ((i : Int) + 1) k' L', WaitOK ws' q) → K ⟨#[.slice (some a) n cap, .int .u32 base, v2, v3, .slice none 0 0, .pointer (some ⟨w.heap.size, 0, none⟩), nv, pv, ov, v9, v10, v11, v12, v13, v14, v15, v16, v17, v18, v19, v20, u21, .int .i64 (i : Int), u23, u24, u25, u26, u27, u28, u29, u30, u31, u32, v33, v34, v35, v36, v37, v38, v39, v40, v41, v42, v43, v44, v45, v46, v47, v48, v49, v50, v51, v52, v53, v54, v55, v56, v57, v58, v59, v60, v61, v62, v63, v64, v65, v66, v67, v68, v69, v70, v71, v72, v73, v74, v75, v76, v77, v78, v79, v80, v81, v82, v83, v84, v85, v86, v87, v88, v89, v90, v91, v92, v93, v94, v95, v96, v97, v98, v99, v100, v101, v102, v103, v104, v105, v106, v107, v108, v109, v110, v111, v112, v113, v114, v115, v116, v117, v118, v119, v120, v121, v122, v123, v124, v125, v126, v127, v128, v129, v130, v131, v132, v133, v134, v135, v136, v137, v138, v139, v140, v141, v142, v143, v144, v145, v146, v147, v148, v149, u150, u151, u152, u153, u154, u155, u156, u157, u158, u159, u160, u161, u162, u163, u164, u165, u166, u167, u168, u169, u170, u171, u172, u173, u174, u175, u176, u177, u178, u179, u180, u181, u182, u183, u184, u185, u186, u187, u188, u189, u190, u191, u192, u193, u194, u195, u196, u197, u198, u199, u200, u201, u202, u203, u204, u205, u206, u207, u208, u209, u210, u211, u212, u213, u214, u215, u216, u217, u218, u219, u220, u221, u222, u223, u224, u225, u226, u227, u228, u229, u230, u231, u232, u233, u234, u235, u236, u237, u238, u239, u240, u241, u242, u243, u244, u245, u246, u247, v248, v249], []⟩ w') :
    Code.wp Tryz.prog (Code.block 6 (blkOf 6 Tryz.f23)) (Exit.then K (docQ w fin)) ⟨#[.slice (some a) n cap, .int .u32 base, v2, v3, .slice none 0 0, .pointer (some ⟨w.heap.size, 0, none⟩), nv, pv, ov, v9, v10, v11, v12, v13, v14, v15, v16, v17, v18, v19, v20, .int .i64 (k : Int), .int .i64 (i : Int), v23, v24, v25, v26, v27, v28, v29, v30, v31, v32, v33, v34, v35, v36, v37, v38, v39, v40, v41, v42, v43, v44, v45, v46, v47, v48, v49, v50, v51, v52, v53, v54, v55, v56, v57, v58, v59, v60, v61, v62, v63, v64, v65, v66, v67, v68, v69, v70, v71, v72, v73, v74, v75, v76, v77, v78, v79, v80, v81, v82, v83, v84, v85, v86, v87, v88, v89, v90, v91, v92, v93, v94, v95, v96, v97, v98, v99, v100, v101, v102, v103, v104, v105, v106, v107, v108, v109, v110, v111, v112, v113, v114, v115, v116, v117, v118, v119, v120, v121, v122, v123, v124, v125, v126, v127, v128, v129, v130, v131, v132, v133, v134, v135, v136, v137, v138, v139, v140, v141, v142, v143, v144, v145, v146, v147, v148, v149, v150, v151, v152, v153, v154, v155, v156, v157, v158, v159, v160, v161, v162, v163, v164, v165, v166, v167, v168, v169, v170, v171, v172, v173, v174, v175, v176, v177, v178, v179, v180, v181, v182, v183, v184, v185, v186, v187, v188, v189, v190, v191, v192, v193, v194, v195, v196, v197, v198, v199, v200, v201, v202, v203, v204, v205, v206, v207, v208, v209, v210, v211, v212, v213, v214, v215, v216, v217, v218, v219, v220, v221, v222, v223, v224, v225, v226, v227, v228, v229, v230, v231, v232, v233, v234, v235, v236, v237, v238, v239, v240, v241, v242, v243, v244, v245, v246, v247, v248, v249], []⟩ wr := by
  conv => arg 2; arg 2; whnf
  have HK := Lib.hid hK
  have hsz := bsl_size s
  have HLK := Lib.hid (fun W => lineKind_any s hl W)
  have hkw : k ≤ ws.length := by omega
  obtain ⟨nvp, nvc, hnv⟩ : ∃ p c, nv = .slice p ns.length c := by
    rcases Joins.ownsRow_forms HS.out.names with ⟨rfl, hz⟩ | ⟨g, cap, rfl⟩
    · exact ⟨_, _, by rw [hz]⟩
    · exact ⟨_, _, rfl⟩
  obtain ⟨pvp, pvc, hpv⟩ : ∃ p c, pv = .slice p ns.length c := by
    rcases Joins.ownsRow_forms HS.out.places with ⟨rfl, hz⟩ | ⟨g, cap, rfl⟩
    · exact ⟨_, _, by rw [hz]⟩
    · exact ⟨_, _, rfl⟩
  subst hnv hpv
  have hnl' : (ns.length : Int) < 1000 := by omega
  have hkb : (k : Int) < 1000 := by omega
  clear hK
  cases hk1 : Lib.hasSuffix s [58] with
  | true =>
    have hkz : kindZ s = 108 := by unfold kindZ; rw [hk1]; rfl
    rw [hkz] at HLK
    have hwl2 : waitsL (i : Int) k (s :: L') = waitsL ((i : Int) + 1) k L' := by simp only [waitsL]; rw [if_pos hk1]
    have hk2 : k + wordsL L' = ws.length := by simp only [wordsL] at hk; rw [if_pos hk1] at hk; exact hk
    rw [hwl2] at HF HW
    have HK2 := Lib.hid hk2
    clear hk1 hkz hwl2 hk2 hl hk
    go_wp2_with fail
    refine (HLK.out _).mono ?_
    rintro e w' ⟨rfl, rfl⟩
    go_wp2_with fail
    exact HK.out _ _ _ _ _ _ _ _ _ _ _ _ _ _ _ _ _ _ _ _ _ _ _ _ _ _ _ _ _ _ _ _ _ _ _ _ _ _ _ _ _ _ _ _ _ _ _ _ _ _ _ _ _ _ _ _ _ _ _ _ _ _ _ _ _ _ _ _ _ _ _ _ _ _ _ _ _ _ _ _ _ _ _ _ _ _ _ _ _ _ _ _ _ _ _ _ _ _ _ _ _ _ _ _ _ _ _ _ _ _ k ws rfl rfl HK2.out HS HF HW
  | false =>
    have hk2 : (k + 1) + wordsL L' = ws.length := by simp only [wordsL] at hk; rw [hk1] at hk; simp at hk; omega
    have HK2 := Lib.hid hk2
    cases hp : Lib.hasPrefix s [46, 119, 111, 114, 100] with
    | true =>
      have hkz : kindZ s = 119 := by unfold kindZ; rw [hk1, hp]; rfl
      rw [hkz] at HLK
      have hwl2 : waitsL (i : Int) k (s :: L') = waitsL ((i : Int) + 1) (k + 1) L' := by simp only [waitsL]; rw [hk1, if_neg (by decide), if_pos hp]
      rw [hwl2] at HF HW
      clear hk1 hkz hwl2 hk2 hl hk hp
      go_wp2_with fail
      refine (HLK.out _).mono ?_
      rintro e w' ⟨rfl, rfl⟩
      go_wp2_with fail
      exact HK.out _ _ _ _ _ _ _ _ _ _ _ _ _ _ _ _ _ _ _ _ _ _ _ _ _ _ _ _ _ _ _ _ _ _ _ _ _ _ _ _ _ _ _ _ _ _ _ _ _ _ _ _ _ _ _ _ _ _ _ _ _ _ _ _ _ _ _ _ _ _ _ _ _ _ _ _ _ _ _ _ _ _ _ _ _ _ _ _ _ _ _ _ _ _ _ _ _ _ _ _ _ _ _ _ _ _ _ _ _ _ (k + 1) ws (by go_num) rfl HK2.out HS HF HW
    | false =>
      have hkz : kindZ s = 105 := by unfold kindZ; rw [hk1, hp]; rfl
      rw [hkz] at HLK
      have HLO := Lib.hid (fun W => labelOf_any s hl W)
      cases hlb : labelledB s with
      | none =>
        have hwl2 : waitsL (i : Int) k (s :: L') = waitsL ((i : Int) + 1) (k + 1) L' := by simp only [waitsL]; rw [hk1, if_neg (by decide), hp, if_neg (by decide), hlb]
        rw [hwl2] at HF HW
        have hda : docAt s = -1 := by unfold docAt; rw [hlb]
        rw [hda] at HLO
        clear hk1 hkz hwl2 hk2 hl hk hp hlb hda
        go_wp2_with fail
        refine (HLK.out _).mono ?_
        rintro e w' ⟨rfl, rfl⟩
        go_wp2_with fail
        refine (HLO.out _).mono ?_
        rintro e w1 ⟨rfl, hb1'⟩
        have HS1 := Lib.hid (HS.out.trans hb1')
        clear hb1'
        go_wp2_with fail
        exact HK.out _ _ _ _ _ _ _ _ _ _ _ _ _ _ _ _ _ _ _ _ _ _ _ _ _ _ _ _ _ _ _ _ _ _ _ _ _ _ _ _ _ _ _ _ _ _ _ _ _ _ _ _ _ _ _ _ _ _ _ _ _ _ _ _ _ _ _ _ _ _ _ _ _ _ _ _ _ _ _ _ _ _ _ _ _ _ _ _ _ _ _ _ _ _ _ _ _ _ _ _ _ _ _ _ _ _ _ _ _ _ (k + 1) ws (by go_num) rfl HK2.out HS1 HF HW
      | some r =>
        obtain ⟨l, y⟩ := r
        obtain ⟨q, hqs, hda, hll, hy⟩ := labelled_at hlb
        have hwl2 : waitsL (i : Int) k (s :: L') = ((i : Int), (k : Int), y) :: waitsL ((i : Int) + 1) (k + 1) L' := by simp only [waitsL]; rw [hk1, if_neg (by decide), hp, if_neg (by decide), hlb]
        rw [hwl2] at HF HW
        rw [hda] at HLO
        have hqs' : (q : Int) ≤ (s.length : Int) := by omega
        have hq0 : (0 : Int) ≤ (q : Int) := by omega
        have hex : (bsl s).extract q (bsl s).size = bsl y := by rw [ext_bsl, hsz, List.take_of_length_le (by rw [List.length_drop]; omega), hy]
        have hex2 : (bsl s).extract q s.length = bsl y := by rw [ext_bsl, List.take_of_length_le (by rw [List.length_drop]; omega), hy]
        clear hk1 hkz hwl2 hk2 hl hk hp hlb hda hll hy
        go_wp2_with fail
        refine (HLK.out _).mono ?_
        rintro e w' ⟨rfl, rfl⟩
        go_wp2_with fail
        refine (HLO.out _).mono ?_
        rintro e w1 ⟨rfl, hb1'⟩
        have HS1 := Lib.hid (HS.out.trans hb1')
        clear hb1' HS hca
        go_wp2_with fail
        go_loopw [26, 27] (fun tv kv wx => ∃ (m nn : Nat) (t : Int), m ≤ ns.length ∧ kv = .int .i64 (m : Int) ∧ tv = .int .i64 t ∧ Hid (t = toZ (findL y (ns.take m))) ∧ wx = w1.drewN nn) (fun _ kv _ => ns.length - (intOf kv).toNat)
        case atStart => exact ⟨0, 0, -1, Nat.zero_le _, rfl, rfl, rfl, by simp [World.drewN_zero]⟩
        case round =>
          obtain ⟨m, nn, t, hm, rfl, rfl, HT, rfl⟩ := hrel
          by_cases hlt : m < ns.length
          · obtain ⟨g, gc, hvf⟩ := Joins.ownsRow_form HS1.out.names (by go_light; omega)
            have hcell : w1.cell? ⟨g, m, none⟩ = some (.string (bsl (ns[m]'hlt).1)) := by
              have := HS1.out.names.cells (show (Value.slice nvp ns.length nvc).ownBlock = some g by rw [hvf]; rfl) m (.string (bsl (ns[m]'hlt).1)) (by rw [List.getElem?_map, List.getElem?_eq_getElem hlt]; rfl)
              rw [addr_add] at this
              exact this
            obtain ⟨gp, gpc, hvp⟩ := Joins.ownsRow_form HS1.out.places (by go_light; omega)
            have hcellp : w1.cell? ⟨gp, m, none⟩ = some (.int .u32 (ns[m]'hlt).2) := by
              have := HS1.out.places.cells (show (Value.slice pvp ns.length pvc).ownBlock = some gp by rw [hvp]; rfl) m (.int .u32 (ns[m]'hlt).2) (by rw [List.getElem?_map, List.getElem?_eq_getElem hlt]; rfl)
              rw [addr_add] at this
              exact this
            simp only [Value.slice.injEq] at hvf hvp
            obtain ⟨hv1, _, rfl⟩ := hvf
            obtain ⟨hv2, _, rfl⟩ := hvp
            subst hv1 hv2
            have hml : (m : Int) < (ns.length : Int) := by go_light; omega
            have HTK := Lib.hid (findL_take y ns m hlt)
            obtain ⟨z0, z1⟩ := HNR.out _ (List.getElem_mem hlt)
            have HZ := Lib.hid z1
            by_cases he : (ns[m]'hlt).1 = y
            · rw [if_pos he] at HTK
              rw [he] at hcell
              have HWZ : Hid (wrap64 (ns[m]'hlt).2 = (ns[m]'hlt).2) := IntWalk.wrap64_in _ ⟨by omega, by omega⟩
              clear he z1
              generalize (ns[m]'hlt).2 = z at *
              go_wp2_with fail
              go_quiet (fail)
              go_wp2
              go_roundw
              case rel => exact ⟨m + 1, _, wrap64 z, hlt, by go_num, rfl, by show _ = _; rw [HTK.out, HWZ.out]; rfl, rfl⟩
              case measure => go_light; simp [intOf]; omega
            · rw [if_neg he] at HTK
              have hne : ((bsl (ns[m]'hlt).1).toList == (bsl y).toList) = false := by rw [bsl_l2, bsl_l2]; exact beq_eq_false_iff_ne.2 he
              clear he z1
              generalize bsl (ns[m]'hlt).1 = nk at *
              generalize (ns[m]'hlt).2 = z at *
              go_wp2_with fail
              go_quiet (fail)
              go_wp2
              go_roundw
              case rel => exact ⟨m + 1, _, t, hlt, by go_num, rfl, by show _ = _; rw [HTK.out]; exact HT.out, rfl⟩
              case measure => go_light; simp [intOf]; omega
          · have hme : m = ns.length := by go_light; omega
            subst hme
            have hT := HT.out
            rw [List.take_length] at hT
            have HS2 : Hid (DocS w (w1.drewN nn) (.slice nvp ns.length nvc) (.slice pvp ns.length pvc) ov ns ws) := HS1.out.drewN nn
            have HF2 := HF.out
            obtain ⟨kk, x, hkk, hk3, hzr, hdz, hxg, hxf, hxb, hyl⟩ := (HW.out _ List.mem_cons_self).range
            have hk4 : kk = k := by simp only at hk3; omega
            subst hk4
            simp only [settleE, Int.toNat_natCast] at HF2
            rw [List.getD_eq_getElem?_getD, List.getElem?_eq_getElem hkk, Option.getD_some, hdz] at HF2
            generalize w1.drewN nn = w2 at *
            clear HT HS1 hlt hk3
            cases hfl : findL y ns with
            | none =>
              rw [hfl] at HF2 hT
              have HFIN : Hid (fin = .error ((i : Int), 6)) := HF2.symm
              subst hT
              clear HF2 hfl hzr hdz
              have e0 : toZ none = -1 := rfl
              rw [e0]
              have HG := Lib.hid (Duo.fill HS2.out.res (.int .i64 (6)) (.int .i64 (i : Int)))
              have HFN := Lib.hid (below_fill2 HS2.out.below (Nat.le_refl _) (.int .i64 (6)) (.int .i64 (i : Int)))
              obtain ⟨c0, c1, g0, g1⟩ := Duo.cells HS2.out.res
              go_wp2_with fail
              all_goals
                change bodyPost _ _ _ _ _ (fill2 (w2) w.heap.size (.int .i64 (6)) (.int .i64 (i : Int)))
                clear c0 c1 g0 g1
                generalize fill2 (w2) w.heap.size (.int .i64 (6)) (.int .i64 (i : Int)) = W5 at *
                obtain ⟨q0, q1, _, _⟩ := Duo.cells HG.out
                exact bodyPost_ret (v := .tuple #[.slice none 0 0, .agg #[.int .i64 (6), .int .i64 (i : Int)]]) (by simp [results, Tryz.f23, go_sem, q0, q1]) rfl ⟨HFN.out, Or.inr ⟨_, _, HFIN.out, rfl⟩⟩
            | some tz =>
              rw [hfl] at HF2 hT
              obtain ⟨tz0, tz1⟩ := findL_range HNR.out hfl
              have hT2 : t = tz := hT
              subst hT2
              obtain ⟨g, gc, hvf⟩ := Joins.ownsRow_form HS2.out.words (by go_light; omega)
              have hcell : w2.cell? ⟨g, kk, none⟩ = some (.int .u32 (ws[kk]'hkk)) := by
                have := HS2.out.words.cells (show ov.ownBlock = some g by rw [hvf]; rfl) kk (.int .u32 (ws[kk]'hkk)) (by rw [List.getElem?_map, List.getElem?_eq_getElem hkk]; rfl)
                rw [addr_add] at this
                exact this
              subst hvf
              obtain ⟨zn, hzn⟩ := Int.eq_ofNat_of_zero_le hzr.1
              rw [hzn] at hcell hdz
              have HDC := Lib.hid (fun W => decodeOf_any zn (by have := hzr.2; omega) W)
              rw [hdz] at HDC
              have HBW := Lib.hid (behind_word base kk)
              have HZB : Hid (t < 4294967296) := tz1
              have hti : t < 9223372036854775807 := by omega
              have hkl : (kk : Int) < (ws.length : Int) := by omega
              have HXI := Lib.hid (And.intro hxg (And.intro hxf hxb))
              obtain ⟨xo, hxo⟩ := Int.eq_ofNat_of_zero_le (show 0 ≤ x.op by have := hxg.1; omega)
              have hxo1 : 1 ≤ xo := by have := hxg.1; omega
              have hxo2 : xo < 54 := by have := hxg.1; omega
              have HRO := Lib.hid (fun W => rowOf_at xo hxo1 hxo2 W)
              have HBF := Lib.hid (br_fields xo hxo2 (by rw [hxo] at hxb; exact hxb))
              obtain ⟨xop, xs, xt, xd, xm⟩ := x
              simp only at hxo
              subst hxo
              clear hT hfl hzr hdz hzn tz1 hxg hxf hxb hyl hxo1 hxo2
              go_wp2_with fail
              refine (word_any (base + 4 * ((kk : Int) + 1)) (by go_light; omega) (by go_light; omega) _).mono ?_
              rintro e w' ⟨rfl, rfl⟩
              rw [HBW.out]
              obtain ⟨bh, hbh⟩ : ∃ bh, ((base + 4 * (kk : Int)) % 4294967296 + 4) % 4294967296 = bh := ⟨_, rfl⟩
              rw [hbh]
              have hbh0 : 0 ≤ bh := by omega
              have HBH1 : Hid (bh < 4294967296) := by show _ < _; omega
              have hbh1 : bh < 9223372036854775807 := by omega
              have HBE := Lib.hid hbh
              clear hbh
              go_wp2_with fail
              refine (HDC.out _).mono ?_
              rintro e w3 ⟨rfl, hb3⟩
              have HS3 := Lib.hid (HS2.out.trans hb3)
              clear hb3 hcell
              have hal := (Below.refl w3.heap.size w3).alloc (Nat.le_refl _) (.cells #[.int .i64 (xo : Int), .int .i64 xs, .int .i64 xt, .int .i64 xd, .int .u32 xm] 24)
              have hI4 := Five.new w3 (.int .i64 (xo : Int)) (.int .i64 xs) (.int .i64 xt) (.int .i64 xd) (.int .u32 xm) 24
              have hTR : ∀ w', Below w3.heap.size w3 w' → DocS w w' (.slice nvp ns.length nvc) (.slice pvp ns.length pvc) (.slice (some ⟨g, 0, none⟩) ws.length gc) ns ws := fun w' h => HS3.out.trans h
              have hfd : ∀ w, (Instr.field 65 (rowV xo) 3).run Tryz.prog w = .ok (.string (bsl (fieldsB xo))) w := fun _ => by kernel_rfl
              have HIO := Lib.hid (fun b h W => isOf_lit (fieldsB xo) (fields_len xo) 106 106 (by decide) b h W)
              have HFE := Lib.hid (rfl : fieldsB xo = fieldsB xo)
              go_wp2_with fail
              refine (HRO.out _).mono ?_
              rintro e w5 ⟨rfl, hb5⟩
              have HI5 := Lib.hid (Five.below hI4 hb5 (Five.lt hI4))
              have HB5 := Lib.hid (hal.trans (hb5.mono hal.size))
              have HTR := Lib.hid hTR
              have HSL : Hid (w.heap.size ≤ w3.heap.size) := HS3.out.size
              clear hal hI4 hTR hb5
              generalize w3.heap.size = bi at *
              generalize (.agg #[.string (bsl (nameB xo)), .int .i64 (majorN xo : Int), .int .i64 (minorN xo : Int), .string (bsl (fieldsB xo)), .string (bsl (orderB xo)), .string (bsl (kindB xo))] : Value) = rv at *
              obtain ⟨x0, x1, x2, x3, x4⟩ := Five.cells HI5.out
              obtain ⟨y0, y1, y2, y3, y4⟩ := Five.free HI5.out
              by_cases hj : fieldsB xo = [106]
              · have HIO2 := Lib.hid (fun W => HIO.out true (by rw [hj]; rfl) W)
                have HJ := Lib.hid hj
                clear HIO hj
                generalize bsl (fieldsB xo) = fs at *
                go_wp2_with fail
                refine (HIO2.out _).mono ?_
                rintro e w6 ⟨rfl, rfl⟩
                have HBN := Lib.hid (brNew_j (x := ⟨(xo : Int), xs, xt, xd, xm⟩) (k := kk) HJ.out HBE.out tz0 HZB.out)
                rw [HBN.out] at HF2
                by_cases heq : t / 268435456 = bh / 268435456
                · rw [if_pos heq] at HF2 HBN
                  have hq : (t / 268435456 != bh / 268435456) = false := by simp [heq]
                  obtain ⟨hg', hf', hb'⟩ := brNew_good HBN.out HXI.out.1 HXI.out.2.1 HXI.out.2.2 tz0 HZB.out
                  clear heq HBN
                  go_upto_region 70 with fail
                  have HI6 := Lib.hid (InsAt.set4 (i := ⟨(xo : Int), xs, xt, xd, xm⟩) HI5.out (t / 4 % 67108864))
                  have HB6 := Lib.hid (HB5.out.setCell (p := ⟨bi, 4, none⟩) (Nat.le_refl _) (.int .u32 (t / 4 % 67108864)))
                  generalize w5.setCell ⟨bi, 4, none⟩ (.int .u32 (t / 4 % 67108864)) = w6 at *
                  have HS6 := Lib.hid (HTR.out _ HB6.out)
                  have HEN := Lib.hid (fun W => encOf_ins _ hg' hf' W)
                  have HF3 : Hid (settleE base ns (waitsL ((i : Int) + 1) (kk + 1) L') (ws.set kk _) = fin) := HF2
                  have HW3 : Hid (∀ q ∈ waitsL ((i : Int) + 1) (kk + 1) L', WaitOK (ws.set kk _) q) := fun q hq => (HW.out q (List.mem_cons_of_mem _ hq)).set kk _ hg' hf' hb'
                  clear HF2 hg' hf' hb' x0 x1 x2 x3 x4 y0 y1 y2 y3 y4 HTR HI5 HB5 HF HW HBF HXI HIO2 HDC HRO hfd
                  obtain ⟨x0, x1, x2, x3, x4⟩ := Five.cells HI6.out
                  simp only at HEN HF3 HW3 x4
                  generalize encL (⟨(xo : Int), xs, xt, xd, _⟩ : InsN) (fieldsB (xo : Int).toNat) = ev at *
                  go_wp2_with fail
                  refine (HEN.out _).mono ?_
                  rintro e w7 ⟨rfl, hb7⟩
                  have HS7 := Lib.hid (HS6.out.trans hb7)
                  have hcell7 : w7.cell? ⟨g, kk, none⟩ = some (.int .u32 (ws[kk]'hkk)) := by
                    have := HS7.out.words.cells (show (Value.slice (some ⟨g, 0, none⟩) ws.length gc).ownBlock = some g from rfl) kk (.int .u32 (ws[kk]'hkk)) (by rw [List.getElem?_map, List.getElem?_eq_getElem hkk]; rfl)
                    rw [addr_add] at this
                    exact this
                  have hfz := HS7.out.words.frozenAt kk
                  clear hb7 x0 x1 x2 x3 x4
                  generalize ws[kk]'hkk = zk at *
                  go_wp2_with fail
                  exact HK.out _ _ _ _ _ _ _ _ _ _ _ _ _ _ _ _ _ _ _ _ _ _ _ _ _ _ _ _ _ _ _ _ _ _ _ _ _ _ _ _ _ _ _ _ _ _ _ _ _ _ _ _ _ _ _ _ _ _ _ _ _ _ _ _ _ _ _ _ _ _ _ _ _ _ _ _ _ _ _ _ _ _ _ _ _ _ _ _ _ _ _ _ _ _ _ _ _ _ _ _ _ _ _ _ _ _ _ _ _ _ (kk + 1) (ws.set kk ev) (by go_num) List.length_set HK2.out (HS7.out.put kk ev) HF3 HW3
                · rw [if_neg heq] at HF2 HBN
                  have hq : (t / 268435456 != bh / 268435456) = true := bne_iff_ne.2 heq
                  have HFIN : Hid (fin = .error ((i : Int), 10)) := HF2.symm
                  have HS6 := Lib.hid (HTR.out _ HB5.out)
                  clear heq HBN HF2 x0 x1 x2 x3 x4 y0 y1 y2 y3 y4
                  have HG := Lib.hid (Duo.fill HS6.out.res (.int .i64 (10)) (.int .i64 (i : Int)))
                  have HFN := Lib.hid (below_fill2 HS6.out.below (Nat.le_refl _) (.int .i64 (10)) (.int .i64 (i : Int)))
                  obtain ⟨c0, c1, g0, g1⟩ := Duo.cells HS6.out.res
                  go_wp2_with fail
                  all_goals
                    change bodyPost _ _ _ _ _ (fill2 (w5) w.heap.size (.int .i64 (10)) (.int .i64 (i : Int)))
                    clear c0 c1 g0 g1
                    generalize fill2 (w5) w.heap.size (.int .i64 (10)) (.int .i64 (i : Int)) = W5 at *
                    obtain ⟨q0, q1, _, _⟩ := Duo.cells HG.out
                    exact bodyPost_ret (v := .tuple #[.slice none 0 0, .agg #[.int .i64 (10), .int .i64 (i : Int)]]) (by simp [results, Tryz.f23, go_sem, q0, q1]) rfl ⟨HFN.out, Or.inr ⟨_, _, HFIN.out, rfl⟩⟩
              · have HIO2 := Lib.hid (fun W => HIO.out false (by rcases HBF.out with e | e | e; exact absurd e hj; rw [e]; rfl; rw [e]; rfl) W)
                have HJ := Lib.hid hj
                clear HIO hj
                generalize bsl (fieldsB xo) = fs at *
                go_wp2_with fail
                refine (HIO2.out _).mono ?_
                rintro e w6 ⟨rfl, rfl⟩
                go_wp2_with fail
                refine (word_any (t - bh) (by have := HBH1.out; go_light; omega) (by go_light; omega) _).mono ?_
                rintro e w6 ⟨rfl, rfl⟩
                go_wp2_with fail
                refine (signedOf_any ((t - bh) % 4294967296) (by omega) (by omega) _).mono ?_
                rintro e w6 ⟨rfl, rfl⟩
                obtain ⟨sd, hsd⟩ : ∃ sd, wrap32 ((t - bh) % 4294967296) = sd := ⟨_, rfl⟩
                have hr := sd_range ((t - bh) % 4294967296) (by omega) (by omega)
                rw [hsd] at hr
                have HBN := Lib.hid (brNew_i (x := ⟨(xo : Int), xs, xt, xd, xm⟩) (base := base) (k := kk) HJ.out HBE.out hsd)
                rw [HBN.out] at HF2
                rw [hsd]
                obtain ⟨hr1, hr2⟩ := tdiv4_range sd hr.1 hr.2
                obtain ⟨s0, s1⟩ := hr
                clear hsd
                go_upto_region 67 with fail
                generalize hdv : sd.tdiv 4 = dz at *
                clear hdv
                by_cases hd1 : dz < -32768
                · rw [if_pos (Or.inl hd1)] at HF2
                  have HFIN : Hid (fin = .error ((i : Int), 10)) := HF2.symm
                  have HS6 := Lib.hid (HTR.out _ HB5.out)
                  clear HBN HF2 x0 x1 x2 x3 x4 y0 y1 y2 y3 y4
                  have HG := Lib.hid (Duo.fill HS6.out.res (.int .i64 (10)) (.int .i64 (i : Int)))
                  have HFN := Lib.hid (below_fill2 HS6.out.below (Nat.le_refl _) (.int .i64 (10)) (.int .i64 (i : Int)))
                  obtain ⟨c0, c1, g0, g1⟩ := Duo.cells HS6.out.res
                  go_wp2_with fail
                  all_goals
                    change bodyPost _ _ _ _ _ (fill2 (w5) w.heap.size (.int .i64 (10)) (.int .i64 (i : Int)))
                    clear c0 c1 g0 g1
                    generalize fill2 (w5) w.heap.size (.int .i64 (10)) (.int .i64 (i : Int)) = W5 at *
                    obtain ⟨q0, q1, _, _⟩ := Duo.cells HG.out
                    exact bodyPost_ret (v := .tuple #[.slice none 0 0, .agg #[.int .i64 (10), .int .i64 (i : Int)]]) (by simp [results, Tryz.f23, go_sem, q0, q1]) rfl ⟨HFN.out, Or.inr ⟨_, _, HFIN.out, rfl⟩⟩
                · by_cases hd2 : 32767 < dz
                  · rw [if_pos (Or.inr hd2)] at HF2
                    have HFIN : Hid (fin = .error ((i : Int), 10)) := HF2.symm
                    have HS6 := Lib.hid (HTR.out _ HB5.out)
                    have hd3 : decide (dz < -32768) = false := decide_eq_false hd1
                    clear HBN HF2 x0 x1 x2 x3 x4 y0 y1 y2 y3 y4
                    have HG := Lib.hid (Duo.fill HS6.out.res (.int .i64 (10)) (.int .i64 (i : Int)))
                    have HFN := Lib.hid (below_fill2 HS6.out.below (Nat.le_refl _) (.int .i64 (10)) (.int .i64 (i : Int)))
                    obtain ⟨c0, c1, g0, g1⟩ := Duo.cells HS6.out.res
                    go_wp2_with fail
                    all_goals
                      change bodyPost _ _ _ _ _ (fill2 (w5) w.heap.size (.int .i64 (10)) (.int .i64 (i : Int)))
                      clear c0 c1 g0 g1
                      generalize fill2 (w5) w.heap.size (.int .i64 (10)) (.int .i64 (i : Int)) = W5 at *
                      obtain ⟨q0, q1, _, _⟩ := Duo.cells HG.out
                      exact bodyPost_ret (v := .tuple #[.slice none 0 0, .agg #[.int .i64 (10), .int .i64 (i : Int)]]) (by simp [results, Tryz.f23, go_sem, q0, q1]) rfl ⟨HFN.out, Or.inr ⟨_, _, HFIN.out, rfl⟩⟩
                  · rw [if_neg (fun h => h.elim hd1 hd2)] at HF2 HBN
                    have hd3 : decide (dz < -32768) = false := decide_eq_false hd1
                    have hd4 : decide ((32767 : Int) < dz) = false := decide_eq_false hd2
                    have hm5 : (0 : Int) ≤ dz + 65536 := by omega
                    obtain ⟨hg', hf', hb'⟩ := brNew_good HBN.out HXI.out.1 HXI.out.2.1 HXI.out.2.2 tz0 HZB.out
                    clear HBN
                    go_upto_region 70 with fail
                    have HI6 := Lib.hid (InsAt.set4 (i := ⟨(xo : Int), xs, xt, xd, xm⟩) HI5.out (dz % 65536))
                    have HB6 := Lib.hid (HB5.out.setCell (p := ⟨bi, 4, none⟩) (Nat.le_refl _) (.int .u32 (dz % 65536)))
                    generalize w5.setCell ⟨bi, 4, none⟩ (.int .u32 (dz % 65536)) = w6 at *
                    have HS6 := Lib.hid (HTR.out _ HB6.out)
                    have HEN := Lib.hid (fun W => encOf_ins _ hg' hf' W)
                    have HF3 : Hid (settleE base ns (waitsL ((i : Int) + 1) (kk + 1) L') (ws.set kk _) = fin) := HF2
                    have HW3 : Hid (∀ q ∈ waitsL ((i : Int) + 1) (kk + 1) L', WaitOK (ws.set kk _) q) := fun q hq => (HW.out q (List.mem_cons_of_mem _ hq)).set kk _ hg' hf' hb'
                    clear HF2 hg' hf' hb' x0 x1 x2 x3 x4 y0 y1 y2 y3 y4 HTR HI5 HB5 HF HW HBF HXI HIO2 HDC HRO hfd
                    obtain ⟨x0, x1, x2, x3, x4⟩ := Five.cells HI6.out
                    simp only at HEN HF3 HW3 x4
                    generalize encL (⟨(xo : Int), xs, xt, xd, _⟩ : InsN) (fieldsB (xo : Int).toNat) = ev at *
                    go_wp2_with fail
                    refine (HEN.out _).mono ?_
                    rintro e w7 ⟨rfl, hb7⟩
                    have HS7 := Lib.hid (HS6.out.trans hb7)
                    have hcell7 : w7.cell? ⟨g, kk, none⟩ = some (.int .u32 (ws[kk]'hkk)) := by
                      have := HS7.out.words.cells (show (Value.slice (some ⟨g, 0, none⟩) ws.length gc).ownBlock = some g from rfl) kk (.int .u32 (ws[kk]'hkk)) (by rw [List.getElem?_map, List.getElem?_eq_getElem hkk]; rfl)
                      rw [addr_add] at this
                      exact this
                    have hfz := HS7.out.words.frozenAt kk
                    clear hb7 x0 x1 x2 x3 x4
                    generalize ws[kk]'hkk = zk at *
                    go_wp2_with fail
                    exact HK.out _ _ _ _ _ _ _ _ _ _ _ _ _ _ _ _ _ _ _ _ _ _ _ _ _ _ _ _ _ _ _ _ _ _ _ _ _ _ _ _ _ _ _ _ _ _ _ _ _ _ _ _ _ _ _ _ _ _ _ _ _ _ _ _ _ _ _ _ _ _ _ _ _ _ _ _ _ _ _ _ _ _ _ _ _ _ _ _ _ _ _ _ _ _ _ _ _ _ _ _ _ _ _ _ _ _ _ _ _ _ (kk + 1) (ws.set kk ev) (by go_num) List.length_set HK2.out (HS7.out.put kk ev) HF3 HW3
end Go.Proofs.YtnppegldebocmaaGreatDoor
namespace Go.Proofs.YtnppegldebocmaaGreatDoor
open Go.ChangeShapes Go.WideShapes Go.ChangeAt Go.RowKit
/-- An error as errors.New makes it, read through. -/
def sentD (text : List UInt8) : DataW Unit := .iface "*errors.errorString" (.ptr (.agg [.lit (.string text)]))
set_option maxRecDepth 100000 in
theorem sents_of (W : World) : ∀ (L : List (String × List UInt8)) (ps : List MemPlace), DataW.LaidVars Tryz.prog W (L.map fun x => (x.1, sentD x.2)) ps →
    (∀ b off, MemPlace.cell b off ∈ ps → (∃ c t, W.heap[b]? = some (.cells c t (0, 0))) ∧ ∀ u v, W.cell? ⟨b, off, none⟩ = some (.iface u v) → Value.okWide Tryz.prog W .any 0 u v) →
    (∀ x ∈ L, ∀ g t, Tryz.prog.globalNamed x.1 = some g → (Tryz.prog.globals[g]?).map (·.type) = some t → t = 27) →
    ∃ ls : List Addr, (∀ (k : Nat) (x : String × List UInt8), L[k]? = some x → ∃ a, ls[k]? = some a ∧ W.var? Tryz.prog x.1 = some #[.iface 214 (.pointer (some a))]) ∧ (ls.map fun a => MemPlace.cell a.block a.off).Sublist ps := by
  intro L
  induction L with
  | nil =>
    intro ps h _ _
    exact ⟨[], fun k x hx => by simp at hx, by simp⟩
  | cons x r ih =>
    intro ps h hrows hty
    obtain ⟨g, t, cs, fuel, p, q, hg, ht, hv, hd, hr, e⟩ := h
    obtain rfl := hty x (by simp) g t hg ht
    obtain ⟨ls, h1, h2⟩ := ih q hr (fun b off hm => hrows b off (by rw [e]; simp [hm])) (fun y hy => hty y (by simp [hy]))
    obtain ⟨l⟩ := cs
    have ok : ∀ u v, l = [.iface u v] → Value.okWide Tryz.prog W .any 0 u v := fun u v el => by
      subst el
      exact (hrows g 0 (by rw [e]; simp [MemPlace.row])).2 u v (by simpa using World.var?_cell hg hv 0)
    obtain ⟨a, s, rfl, _, _, _, rfl⟩ := errorString_of_trod Tryz.underlying27 rowES Tryz.underlying214 Tryz.underlying216 rfl rfl Tryz.underlying9 cellsES cellsStr hd ok
    refine ⟨a :: ls, ?_, ?_⟩
    · intro k y hy
      cases k with
      | zero =>
        simp at hy
        subst hy
        exact ⟨a, by simp, hv⟩
      | succ k =>
        simp at hy
        obtain ⟨b, hb1, hb2⟩ := h1 k y hy
        exact ⟨b, by simpa using hb1, hb2⟩
    · rw [e]
      simp only [List.map_cons, MemPlace.row]
      simp
      refine List.Sublist.cons _ ?_
      exact List.Sublist.cons_cons _ h2
def ten : List (String × List UInt8) := [("changeling/api.ErrText", [99, 104, 97, 110, 103, 101, 108, 105, 110, 103, 58, 32, 116, 101, 120, 116]), ("changeling/api.ErrBound", [99, 104, 97, 110, 103, 101, 108, 105, 110, 103, 58, 32, 98, 111, 117, 110, 100]), ("changeling/api.ErrShape", [99, 104, 97, 110, 103, 101, 108, 105, 110, 103, 58, 32, 115, 104, 97, 112, 101]), ("changeling/api.ErrKind", [99, 104, 97, 110, 103, 101, 108, 105, 110, 103, 58, 32, 107, 105, 110, 100]), ("changeling/api.ErrName", [99, 104, 97, 110, 103, 101, 108, 105, 110, 103, 58, 32, 110, 97, 109, 101]), ("changeling/api.ErrNone", [99, 104, 97, 110, 103, 101, 108, 105, 110, 103, 58, 32, 110, 111, 110, 101]), ("changeling/api.ErrExist", [99, 104, 97, 110, 103, 101, 108, 105, 110, 103, 58, 32, 101, 120, 105, 115, 116]), ("changeling/api.ErrFull", [99, 104, 97, 110, 103, 101, 108, 105, 110, 103, 58, 32, 102, 117, 108, 108]), ("changeling/api.ErrAlign", [99, 104, 97, 110, 103, 101, 108, 105, 110, 103, 58, 32, 97, 108, 105, 103, 110]), ("changeling/api.ErrFar", [99, 104, 97, 110, 103, 101, 108, 105, 110, 103, 58, 32, 102, 97, 114])]
theorem gErrText : Tryz.prog.globalNamed "changeling/api.ErrText" = some 1 := by kernel_rfl
theorem gErrShape : Tryz.prog.globalNamed "changeling/api.ErrShape" = some 6 := by kernel_rfl
theorem gErrName : Tryz.prog.globalNamed "changeling/api.ErrName" = some 0 := by kernel_rfl
theorem gErrNone : Tryz.prog.globalNamed "changeling/api.ErrNone" = some 7 := by kernel_rfl
theorem gErrExist : Tryz.prog.globalNamed "changeling/api.ErrExist" = some 8 := by kernel_rfl
theorem gErrFull : Tryz.prog.globalNamed "changeling/api.ErrFull" = some 2 := by kernel_rfl
theorem gErrAlign : Tryz.prog.globalNamed "changeling/api.ErrAlign" = some 3 := by kernel_rfl
theorem gErrFar : Tryz.prog.globalNamed "changeling/api.ErrFar" = some 9 := by kernel_rfl
theorem gErrorType : Tryz.prog.globalNamed "errors.errorType" = some 10 := by kernel_rfl
theorem ten_types : ∀ x ∈ ten, ((Tryz.prog.globalNamed x.1).bind fun g => (Tryz.prog.globals[g]?).map (·.type)) = some 27 := by
  intro x hx
  simp only [ten, List.mem_cons, List.not_mem_nil, or_false] at hx
  rcases hx with rfl | rfl | rfl | rfl | rfl | rfl | rfl | rfl | rfl | rfl <;> kernel_rfl
theorem rt_type : (Tryz.prog.cutTypes.find? (·.1 == "internal/reflectlite.rtype")).map (·.2) = some 167 := by kernel_rfl
theorem one_error : ((List.range 246).filter fun t => Tryz.prog.rowNamed t [101, 114, 114, 111, 114]) = [27] := by kernel_rfl
theorem types_size : Tryz.prog.types.size = 246 := by kernel_rfl
theorem handle_error : typeHandle Tryz.prog 27 = .pointer (some ⟨19, 27, none⟩) := by kernel_rfl
/-- The condition gives the ten errors and the handle. -/
theorem sents_of_laid {W : World} (h : laidMet Tryz.prog (ten.map fun x => (x.1, sentD x.2)) W) (hh : handlesMet Tryz.prog [("errors.errorType", .iface "internal/reflectlite.rtype" (.agg [.ptr (.lit (.string [101, 114, 114, 111, 114]))]))] W) : ∃ ad : Nat → Addr, Sents W ad := by
  obtain ⟨ps, hl, hnd, hrows⟩ := h
  obtain ⟨ls, h1, h2⟩ := sents_of W ten ps hl hrows (fun x hx g t hg ht => by
    have := ten_types x hx
    rw [hg] at this
    simp only [Option.bind_some] at this
    exact Option.some.inj (ht.symm.trans this))
  have hn : (ls.map fun a => MemPlace.cell a.block a.off).Nodup := h2.nodup hnd
  have get : ∀ k x, ten[k]? = some x → W.var? Tryz.prog x.1 = some #[.iface 214 (.pointer (some (ls.getD k default)))] ∧ k < ls.length := fun k x hx => by
    obtain ⟨a, ha, hv⟩ := h1 k x hx
    have : ls.getD k default = a := by simp [ha]
    rw [this]
    exact ⟨hv, (List.getElem?_eq_some_iff.1 ha).1⟩
  have hlen : ∀ k, k < 10 → k < ls.length := fun k hk => by
    have hk' : k < ten.length := hk
    exact (get k ten[k] (List.getElem?_eq_getElem hk')).2
  obtain ⟨name, u, ty, e1, e2, e3, e4, e5⟩ := hh _ (List.mem_singleton.2 rfl)
  have en : name = [101, 114, 114, 111, 114] := (Option.some.inj e1).symm
  subst en
  obtain rfl := Option.some.inj (rt_type.symm.trans e2)
  have hm : ty ∈ (List.range 246).filter fun t => Tryz.prog.rowNamed t [101, 114, 114, 111, 114] := List.mem_filter.2 ⟨List.mem_range.2 (by rw [← types_size]; exact e3), e4⟩
  rw [one_error] at hm
  obtain rfl := List.mem_singleton.1 hm
  rw [handle_error] at e5
  refine ⟨fun k => ls.getD k default, ?_, ?_, ?_, ?_, ?_, ?_, ?_, ?_, ?_, ?_, ?_, ?_, ?_⟩
  · simpa using World.var?_cell gErrText (get 0 _ rfl).1 0
  · simpa using World.var?_cell gErrBound (get 1 _ rfl).1 0
  · simpa using World.var?_cell gErrShape (get 2 _ rfl).1 0
  · simpa using World.var?_cell gErrKind (get 3 _ rfl).1 0
  · simpa using World.var?_cell gErrName (get 4 _ rfl).1 0
  · simpa using World.var?_cell gErrNone (get 5 _ rfl).1 0
  · simpa using World.var?_cell gErrExist (get 6 _ rfl).1 0
  · simpa using World.var?_cell gErrFull (get 7 _ rfl).1 0
  · simpa using World.var?_cell gErrAlign (get 8 _ rfl).1 0
  · simpa using World.var?_cell gErrFar (get 9 _ rfl).1 0
  · intro k hk
    have hk' := hlen k hk
    have hg : ls.getD k default = ls[k] := by simp [hk']
    obtain ⟨c, t, e⟩ := (hrows ls[k].block ls[k].off (h2.subset (List.mem_map.2 ⟨ls[k], List.getElem_mem hk', rfl⟩))).1
    exact ⟨c, t, by rw [hg]; exact e⟩
  · intro i j hi hj hij
    have hi' := hlen i hi
    have hj' := hlen j hj
    have hgi : ls.getD i default = ls[i] := by simp [hi']
    have hgj : ls.getD j default = ls[j] := by simp [hj']
    show ls.getD i default ≠ ls.getD j default
    rw [hgi, hgj]
    intro e
    have pw := List.pairwise_iff_getElem.1 hn
    rcases Nat.lt_or_gt_of_ne hij with h | h
    · exact pw i j (by simpa using hi') (by simpa using hj') h (by simp [e])
    · exact pw j i (by simpa using hj') (by simpa using hi') h (by simp [e])
  · simpa using World.var?_cell gErrorType e5 0
end Go.Proofs.YtnppegldebocmaaGreatDoor
namespace Go.Proofs.YtnppegldebocmaaGreatDoor
open Go.RowKit Go.WideShapes Go.ChangeShapes Go.ChangeAt
section
variable {H : Type} {enc : TypeId × Value → H} {P : Program}
/-- A world that is below as it was: what the row's end asks. -/
theorem post_of_below {f : Func} {s : ChangeSpec} {apart fresh handsOn again : Bool} {W W' : World} {args : Array Value} {v : Value} {ds gs : List (DataW H)} {before pa pv : List MemPlace}
    (hW : DataW.Whole enc P f.params.toList s.vars apart W args.toList ds gs before)
    (hres : ∀ (b : Nat) (sp : Nat → Bool) (hd : Bool), DataW.TrodAll enc P W' b sp hd f.resultTypes.toList (v.resultList f.resultTypes.size) (s.fn H (ds ++ gs)).results [])
    (hargs : ∀ sp : Nat → Bool, (∀ p ∈ before, sp p.block = true) → DataW.TrodAll enc P W' 0 sp true f.params.toList args.toList (s.fn H (ds ++ gs)).args pa)
    (hvars : ∀ sp : Nat → Bool, (∀ p ∈ before, sp p.block = true) → DataW.TrodVars enc P W' sp s.vars (s.fn H (ds ++ gs)).vars pv)
    (hps : before = pa ++ pv) (hb : Below W.heap.size W W')
    (hok : ∀ (j : Nat) (t : TypeId) (r : Value), f.resultTypes[j]? = some t → (v.resultList f.resultTypes.size)[j]? = some r → Value.okWide P W' .any 0 t r) :
    s.post enc P f apart fresh handsOn again W args v W' := by
  have hlt : ∀ p ∈ before, p.block < W.heap.size := fun p hp => hW.lt p hp
  have hold : ∀ p ∈ before, (fun b => decide (b < W.heap.size)) p.block = true := fun p hp => by simpa using hlt p hp
  refine ⟨ds, gs, before, [], pa, pv, hW, hres _ _ _, hargs _ hold, hvars _ hold, World.keptBut_mono (fun p hp => ⟨hp, ?_⟩) (hb.frame (· ∈ before)), fun _ => ?_⟩
  · rw [hps, List.mem_append] at hp
    exact Or.inr hp
  · obtain ⟨_, _, _, _, _, hz, hn⟩ := hW
    refine ⟨hok, _, _, ([] ++ pa) ++ pv, ⟨[] ++ pa, pv, trodAll_append (hargs _ (fun _ _ => rfl)) (hres _ _ _), hvars _ (fun _ _ => rfl), rfl, ?_, ?_⟩, ?_⟩
    · intro b off hp
      have hin : MemPlace.cell b off ∈ before := by rw [hps]; simpa using hp
      rw [hb.frozen (hlt _ hin)]
      exact hz b off hin
    · intro ha
      have := hn ha
      rw [hps] at this
      simpa using this
    · intro p hp _
      rw [hps]
      simpa using hp
theorem trodAll_stays (hl : laidOutB P = true) {W W' : World} (hb : Below W.heap.size W W') (sp : Nat → Bool) : ∀ (ts : List TypeId) (vs : List Value) (ds : List (DataW H)) (p : List MemPlace),
    (∀ t ∈ ts, P.readableRec t = true ∧ t < P.types.size) → DataW.TrodAll enc P W 0 (fun _ => true) true ts vs ds p → (∀ x ∈ p, x.block < W.heap.size) → (∀ x ∈ p, sp x.block = true) →
    DataW.TrodAll enc P W' 0 sp true ts vs ds p := by
  intro ts
  induction ts with
  | nil =>
    intro vs ds p _ h _ _
    obtain ⟨rfl, rfl, rfl⟩ := trodAll_nil h
    exact trodAll_mk0
  | cons t r ih =>
    intro vs ds p hr h hlt hsp
    obtain ⟨v, vs', d, ds', p1, p2, rfl, rfl, rfl, h1, h2⟩ := trodAll_cons h
    obtain ⟨a, b⟩ := hr t (by simp)
    refine trodAll_cons_mk (WideElems.Trod_stays hl a b h1 (fun x hx => hb.same (hlt x (by simp [hx]))) (fun x hx => hsp x (by simp [hx]))) (ih vs' ds' p2 (fun t' ht' => hr t' (by simp [ht'])) h2 (fun x hx => hlt x (by simp [hx])) (fun x hx => hsp x (by simp [hx])))
/-- The end of a law: it answered true, and has only made new blocks. -/
theorem law_post {f : Func} {s : ChangeSpec} {W W' : World} {args : Array Value} {ds gs : List (DataW H)} {before : List MemPlace} {tb : TypeId} (hl : laidOutB P = true)
    (hW : DataW.Whole enc P f.params.toList s.vars false W args.toList ds gs before) (hv : s.vars = []) (hfn : s.fn H (ds ++ []) = { results := [.lit (.bool true)], args := ds })
    (hrb : (f.params.toList.all fun t => P.readableRec t && decide (t < P.types.size)) = true) (htb : P.underlying tb = some .bool) (hres : f.resultTypes = #[tb]) (hb : Below W.heap.size W W') :
    s.post enc P f false true false false W args (.bool true) W' := by
  have hr : ∀ t ∈ f.params.toList, P.readableRec t = true ∧ t < P.types.size := fun t ht => by simpa using List.all_eq_true.1 hrb t ht
  have hW2 := hW
  obtain ⟨p, q, hA, hV, hps, hz, hn⟩ := hW2
  rw [hv] at hV
  obtain ⟨rfl, rfl⟩ := trodVars_none hV
  have hlt : ∀ x ∈ p, x.block < W.heap.size := fun x hx => hW.lt x (by rw [hps]; simp [hx])
  refine post_of_below (pa := p) (pv := []) hW ?_ ?_ ?_ hps hb ?_
  · intro b sp hd
    rw [hfn, hres]
    exact trodAll_mk1 (shut_bool htb true)
  · intro sp hsp
    rw [hfn]
    exact trodAll_stays hl hb sp _ _ _ _ hr hA hlt (fun x hx => hsp x (by rw [hps]; simp [hx]))
  · intro sp hsp
    rw [hfn, hv]
    rfl
  · exact ok_one hres rfl (okWide_bool_mk htb true)
end
end Go.Proofs.YtnppegldebocmaaGreatDoor
namespace Go.Proofs.YtnppegldebocmaaGreatDoor
open Go.RowKit
set_option linter.unusedVariables false
set_option linter.unusedSimpArgs false
theorem bare_any (c : Int) (w : World) : Calls Tryz.prog 50 #[.int .i64 c] w fun e w' => e = .returned (.agg #[.int .i64 c, .int .i64 (-1)]) ∧ Below w.heap.size w w' := by
  go_enter Tryz.func50, Tryz.ntmps50
  go_wp2_with fail
  exact bodyPost_ret (v := .agg #[.int .i64 c, .int .i64 (-1)]) (by simp [results, Tryz.f50, go_sem]) rfl ⟨rfl, by go_grown⟩
theorem fine_any (w : World) : Calls Tryz.prog 57 #[] w fun e w' => e = .returned (.agg #[.int .i64 0, .int .i64 (-1)]) ∧ Below w.heap.size w w' := by
  go_enter Tryz.func57, Tryz.ntmps57
  go_wp2_with fail
  exact bodyPost_ret (v := .agg #[.int .i64 0, .int .i64 (-1)]) (by simp [results, Tryz.f57, go_sem]) rfl ⟨rfl, by go_grown⟩
theorem DocS.wordsFill {w0 w : World} {nv pv ov : Value} {ns : Labs} {ws : List Int} (h : DocS w0 w nv pv ov ns ws) (a b : Value) : (fill2 w w0.heap.size a b).ownsRow w0.heap.size 22 1 ov ws.length (ws.map (.int .u32)) := by
  have hne := own_ne h.words h.res (by decide)
  refine own_block h.words fun g hg => ?_
  have e : g ≠ w0.heap.size := fun e => hne (by rw [hg, e])
  exact (setCell_other _ _ _ _ _ e).trans (setCell_other _ _ _ _ _ e)
theorem stepE_names {base i : Int} {st st' : StE} {s : List UInt8} (h : stepE base i st s = .ok st') : st'.1.2.length ≤ st.1.2.length + 1 := by
  unfold stepE at h
  split at h
  · split at h
    · split at h
      · cases h
      · cases h; simp
    · cases h
  · split at h
    · split at h
      · cases h; simp
      · cases h
    · split at h
      · split at h
        · cases h; simp
        · cases h
      · split at h
        · cases h; simp
        · cases h
set_option maxHeartbeats 4000000 in
set_option maxRecDepth 1000000 in
theorem doc_round1 (n cap : Nat) (a : Addr) (i : Nat) (s : List UInt8) (hl : s.length ≤ 100) (base : Int) (hb0 : 0 ≤ base) (hb1 : base < 4294967296) (ws : List Int) (ns : Labs) (qs : Waits) (hwl : ws.length < 1000) (hnl : ns.length < 1000)
    (w wr : World) (nv pv ov : Value) (fin : Except (Int × Nat) (List Int)) (HS : Hid (DocS w wr nv pv ov ns ws)) (hin : (i : Int) < (n : Int)) (hca : wr.cell? (a.add i) = some (.string (bsl s)))
    (HF : Hid (∀ k, stepE base (i : Int) ((ws, ns), qs) s = .error k → fin = .error ((i : Int), k)))
    (v2 v3 v10 v11 v12 v13 v14 v15 v16 v17 v18 v19 v20 v21 v22 v23 v24 v25 v26 v27 v28 v29 v30 v31 v32 v33 v34 v35 v36 v37 v38 v39 v40 v41 v42 v43 v44 v45 v46 v47 v48 v49 v50 v51 v52 v53 v54 v55 v56 v57 v58 v59 v60 v61 v62 v63 v64 v65 v66 v67 v68 v69 v70 v71 v72 v73 v74 v75 v76 v77 v78 v79 v80 v81 v82 v83 v84 v85 v86 v87 v88 v89 v90 v91 v92 v93 v94 v95 v96 v97 v98 v99 v100 v101 v102 v103 v104 v105 v106 v107 v108 v109 v110 v111 v112 v113 v114 v115 v116 v117 v118 v119 v120 v121 v122 v123 v124 v125 v126 v127 v128 v129 v130 v131 v132 v133 v134 v135 v136 v137 v138 v139 v140 v141 v142 v143 v144 v145 v146 v147 v148 v149 v150 v151 v152 v153 v154 v155 v156 v157 v158 v159 v160 v161 v162 v163 v164 v165 v166 v167 v168 v169 v170 v171 v172 v173 v174 v175 v176 v177 v178 v179 v180 v181 v182 v183 v184 v185 v186 v187 v188 v189 v190 v191 v192 v193 v194 v195 v196 v197 v198 v199 v200 v201 v202 v203 v204 v205 v206 v207 v208 v209 v210 v211 v212 v213 v214 v215 v216 v217 v218 v219 v220 v221 v222 v223 v224 v225 v226 v227 v228 v229 v230 v231 v232 v233 v234 v235 v236 v237 v238 v239 v240 v241 v242 v243 v244 v245 v246 v247 v248 v249 : Value) (K : Act → World → Prop)
    (hK : ∀ (u6 u7 u8 u10 u11 u12 u13 u14 u15 u16 u17 u18 u19 u20 u47 u48 u49 u50 u51 u52 u53 u54 u55 u56 u57 u58 u59 u60 u61 u62 u63 u64 u65 u66 u67 u68 u69 u70 u71 u72 u73 u74 u75 u76 u77 u78 u79 u80 u81 u82 u83 u84 u85 u86 u87 u88 u89 u90 u91 u92 u93 u94 u95 u96 u97 u98 u99 u100 u101 u102 u103 u104 u105 u106 u107 u108 u109 u110 u111 u112 u113 u114 u115 u116 u117 u118 u119 u120 u121 u122 u123 u124 u125 u126 u127 u128 u129 u130 u131 u132 u133 u134 u135 u136 u137 u138 u139 u140 u141 u142 u143 : Value) (w' : World) (st' : StE), stepE base (i : Int) ((ws, ns), qs) s = .ok st' → Hid (DocS w w' u6 u7 u8 st'.1.2 st'.1.1) → K ⟨#[.slice (some a) n cap, .int .u32 base, v2, v3, .slice none 0 0, .pointer (some ⟨w.heap.size, 0, none⟩), u6, u7, u8, .int .i64 (i : Int), u10, u11, u12, u13, u14, u15, u16, u17, u18, u19, u20, v21, v22, v23, v24, v25, v26, v27, v28, v29, v30, v31, v32, v33, v34, v35, v36, v37, v38, v39, v40, v41, v42, v43, v44, v45, v46, u47, u48, u49, u50, u51, u52, u53, u54, u55, u56, u57, u58, u59, u60, u61, u62, u63, u64, u65, u66, u67, u68, u69, u70, u71, u72, u73, u74, u75, u76, u77, u78, u79, u80, u81, u82, u83, u84, u85, u86, u87, u88, u89, u90, u91, u92, u93, u94, u95, u96, u97, u98, u99, u100, u101, u102, u103, u104, u105, u106, u107, u108, u109, u110, u111, u112, u113, u114, u115, u116, u117, u118, u119, u120, u121, u122, u123, u124, u125, u126, u127, u128, u129, u130, u131, u132, u133, u134, u135, u136, u137, u138, u139, u140, u141, u142, u143, v144, v145, v146, v147, v148, v149, v150, v151, v152, v153, v154, v155, v156, v157, v158, v159, v160, v161, v162, v163, v164, v165, v166, v167, v168, v169, v170, v171, v172, v173, v174, v175, v176, v177, v178, v179, v180, v181, v182, v183, v184, v185, v186, v187, v188, v189, v190, v191, v192, v193, v194, v195, v196, v197, v198, v199, v200, v201, v202, v203, v204, v205, v206, v207, v208, v209, v210, v211, v212, v213, v214, v215, v216, v217, v218, v219, v220, v221, v222, v223, v224, v225, v226, v227, v228, v229, v230, v231, v232, v233, v234, v235, v236, v237, v238, v239, v240, v241, v242, v243, v244, v245, v246, v247, v248, v249], []⟩ w') :
    Code.wp Tryz.prog (Code.block 1 (blkOf 1 Tryz.f23)) (Exit.then K (docQ w fin)) ⟨#[.slice (some a) n cap, .int .u32 base, v2, v3, .slice none 0 0, .pointer (some ⟨w.heap.size, 0, none⟩), nv, pv, ov, .int .i64 (i : Int), v10, v11, v12, v13, v14, v15, v16, v17, v18, v19, v20, v21, v22, v23, v24, v25, v26, v27, v28, v29, v30, v31, v32, v33, v34, v35, v36, v37, v38, v39, v40, v41, v42, v43, v44, v45, v46, v47, v48, v49, v50, v51, v52, v53, v54, v55, v56, v57, v58, v59, v60, v61, v62, v63, v64, v65, v66, v67, v68, v69, v70, v71, v72, v73, v74, v75, v76, v77, v78, v79, v80, v81, v82, v83, v84, v85, v86, v87, v88, v89, v90, v91, v92, v93, v94, v95, v96, v97, v98, v99, v100, v101, v102, v103, v104, v105, v106, v107, v108, v109, v110, v111, v112, v113, v114, v115, v116, v117, v118, v119, v120, v121, v122, v123, v124, v125, v126, v127, v128, v129, v130, v131, v132, v133, v134, v135, v136, v137, v138, v139, v140, v141, v142, v143, v144, v145, v146, v147, v148, v149, v150, v151, v152, v153, v154, v155, v156, v157, v158, v159, v160, v161, v162, v163, v164, v165, v166, v167, v168, v169, v170, v171, v172, v173, v174, v175, v176, v177, v178, v179, v180, v181, v182, v183, v184, v185, v186, v187, v188, v189, v190, v191, v192, v193, v194, v195, v196, v197, v198, v199, v200, v201, v202, v203, v204, v205, v206, v207, v208, v209, v210, v211, v212, v213, v214, v215, v216, v217, v218, v219, v220, v221, v222, v223, v224, v225, v226, v227, v228, v229, v230, v231, v232, v233, v234, v235, v236, v237, v238, v239, v240, v241, v242, v243, v244, v245, v246, v247, v248, v249], []⟩ wr := by
  cases hk : Lib.hasSuffix s [58] with
  | true => exact doc_roundL n cap a i s hl base hb0 hb1 ws ns qs hwl hnl w wr nv pv ov fin HS hin hca HF hk v2 v3 v10 v11 v12 v13 v14 v15 v16 v17 v18 v19 v20 v21 v22 v23 v24 v25 v26 v27 v28 v29 v30 v31 v32 v33 v34 v35 v36 v37 v38 v39 v40 v41 v42 v43 v44 v45 v46 v47 v48 v49 v50 v51 v52 v53 v54 v55 v56 v57 v58 v59 v60 v61 v62 v63 v64 v65 v66 v67 v68 v69 v70 v71 v72 v73 v74 v75 v76 v77 v78 v79 v80 v81 v82 v83 v84 v85 v86 v87 v88 v89 v90 v91 v92 v93 v94 v95 v96 v97 v98 v99 v100 v101 v102 v103 v104 v105 v106 v107 v108 v109 v110 v111 v112 v113 v114 v115 v116 v117 v118 v119 v120 v121 v122 v123 v124 v125 v126 v127 v128 v129 v130 v131 v132 v133 v134 v135 v136 v137 v138 v139 v140 v141 v142 v143 v144 v145 v146 v147 v148 v149 v150 v151 v152 v153 v154 v155 v156 v157 v158 v159 v160 v161 v162 v163 v164 v165 v166 v167 v168 v169 v170 v171 v172 v173 v174 v175 v176 v177 v178 v179 v180 v181 v182 v183 v184 v185 v186 v187 v188 v189 v190 v191 v192 v193 v194 v195 v196 v197 v198 v199 v200 v201 v202 v203 v204 v205 v206 v207 v208 v209 v210 v211 v212 v213 v214 v215 v216 v217 v218 v219 v220 v221 v222 v223 v224 v225 v226 v227 v228 v229 v230 v231 v232 v233 v234 v235 v236 v237 v238 v239 v240 v241 v242 v243 v244 v245 v246 v247 v248 v249 K hK
  | false =>
    cases hp : Lib.hasPrefix s [46, 119, 111, 114, 100] with
    | true => exact doc_roundW n cap a i s hl base hb0 hb1 ws ns qs hwl hnl w wr nv pv ov fin HS hin hca HF hk hp v2 v3 v10 v11 v12 v13 v14 v15 v16 v17 v18 v19 v20 v21 v22 v23 v24 v25 v26 v27 v28 v29 v30 v31 v32 v33 v34 v35 v36 v37 v38 v39 v40 v41 v42 v43 v44 v45 v46 v47 v48 v49 v50 v51 v52 v53 v54 v55 v56 v57 v58 v59 v60 v61 v62 v63 v64 v65 v66 v67 v68 v69 v70 v71 v72 v73 v74 v75 v76 v77 v78 v79 v80 v81 v82 v83 v84 v85 v86 v87 v88 v89 v90 v91 v92 v93 v94 v95 v96 v97 v98 v99 v100 v101 v102 v103 v104 v105 v106 v107 v108 v109 v110 v111 v112 v113 v114 v115 v116 v117 v118 v119 v120 v121 v122 v123 v124 v125 v126 v127 v128 v129 v130 v131 v132 v133 v134 v135 v136 v137 v138 v139 v140 v141 v142 v143 v144 v145 v146 v147 v148 v149 v150 v151 v152 v153 v154 v155 v156 v157 v158 v159 v160 v161 v162 v163 v164 v165 v166 v167 v168 v169 v170 v171 v172 v173 v174 v175 v176 v177 v178 v179 v180 v181 v182 v183 v184 v185 v186 v187 v188 v189 v190 v191 v192 v193 v194 v195 v196 v197 v198 v199 v200 v201 v202 v203 v204 v205 v206 v207 v208 v209 v210 v211 v212 v213 v214 v215 v216 v217 v218 v219 v220 v221 v222 v223 v224 v225 v226 v227 v228 v229 v230 v231 v232 v233 v234 v235 v236 v237 v238 v239 v240 v241 v242 v243 v244 v245 v246 v247 v248 v249 K hK
    | false => exact doc_roundI n cap a i s hl base hb0 hb1 ws ns qs hwl hnl w wr nv pv ov fin HS hin hca HF hk hp v2 v3 v10 v11 v12 v13 v14 v15 v16 v17 v18 v19 v20 v21 v22 v23 v24 v25 v26 v27 v28 v29 v30 v31 v32 v33 v34 v35 v36 v37 v38 v39 v40 v41 v42 v43 v44 v45 v46 v47 v48 v49 v50 v51 v52 v53 v54 v55 v56 v57 v58 v59 v60 v61 v62 v63 v64 v65 v66 v67 v68 v69 v70 v71 v72 v73 v74 v75 v76 v77 v78 v79 v80 v81 v82 v83 v84 v85 v86 v87 v88 v89 v90 v91 v92 v93 v94 v95 v96 v97 v98 v99 v100 v101 v102 v103 v104 v105 v106 v107 v108 v109 v110 v111 v112 v113 v114 v115 v116 v117 v118 v119 v120 v121 v122 v123 v124 v125 v126 v127 v128 v129 v130 v131 v132 v133 v134 v135 v136 v137 v138 v139 v140 v141 v142 v143 v144 v145 v146 v147 v148 v149 v150 v151 v152 v153 v154 v155 v156 v157 v158 v159 v160 v161 v162 v163 v164 v165 v166 v167 v168 v169 v170 v171 v172 v173 v174 v175 v176 v177 v178 v179 v180 v181 v182 v183 v184 v185 v186 v187 v188 v189 v190 v191 v192 v193 v194 v195 v196 v197 v198 v199 v200 v201 v202 v203 v204 v205 v206 v207 v208 v209 v210 v211 v212 v213 v214 v215 v216 v217 v218 v219 v220 v221 v222 v223 v224 v225 v226 v227 v228 v229 v230 v231 v232 v233 v234 v235 v236 v237 v238 v239 v240 v241 v242 v243 v244 v245 v246 v247 v248 v249 K hK
set_option maxHeartbeats 4000000 in
set_option maxRecDepth 1000000 in
theorem assembleOf_any (L : List (List UInt8)) (hL : L.length ≤ 200) (hlen : ∀ s ∈ L, s.length ≤ 100) (base : Int) (hb0 : 0 ≤ base) (hb1 : base < 4294967296) (hb4 : base % 4 = 0) (fin : Except (Int × Nat) (List Int)) (hg : runE base 0 L (([], []), []) = fin)
    (w : World) (v : Value) (hv : ArgT w v L) : Calls Tryz.prog 23 #[v, .int .u32 base] w fun e w' => DocEnd w fin e w' := by
  obtain ⟨p, cap, rfl, hc⟩ := hv
  have HC := Lib.hid hc
  have HLEN := Lib.hid hlen
  have HG := Lib.hid hg
  have hbt : base.tmod 4 = 0 := by rw [Int.tmod_eq_emod_of_nonneg hb0]; exact hb4
  have hlz : ¬ (200 : Int) < (L.length : Int) := by omega
  clear hc hlen hg
  go_enter Tryz.func23, Tryz.ntmps23
  go_wp2_with fail
  have hS0 : DocS w (w.alloc (.cells #[.int .i64 0, .int .i64 0] 55)) (.slice none 0 0) (.slice none 0 0) (.slice none 0 0) [] [] :=
    ⟨heap_alloc_new w _, World.ownsRow_nil _ _ _ _, World.ownsRow_nil _ _ _ _, World.ownsRow_nil _ _ _ _, Or.inl rfl, (Below.refl _ _).alloc (Nat.le_refl _) _, by simp⟩
  have HS0 := Lib.hid hS0
  clear hS0 hbt
  generalize w.alloc (.cells #[.int .i64 0, .int .i64 0] 55) = w1 at *
  go_loopw [4, 6, 7, 8, 9] (fun rv nv pv ov kv wr => ∃ (i : Nat) (ws : List Int) (ns : Labs) (qs : Waits), i ≤ L.length ∧ ws.length ≤ i ∧ ns.length ≤ i ∧ rv = .slice none 0 0 ∧ kv = .int .i64 (i : Int) ∧ Hid (DocS w wr nv pv ov ns ws) ∧ Hid (goodE base 0 L (([], []), []) = goodE base (i : Int) (L.drop i) ((ws, ns), qs))) (fun _ _ _ _ kv _ => L.length - (intOf kv).toNat)
  case atStart => exact ⟨0, [], [], [], Nat.zero_le _, Nat.le_refl _, Nat.le_refl _, rfl, rfl, HS0, rfl⟩
  case round =>
    rename Value => nv0
    obtain ⟨i, ws, ns, qs, hi, hwi, hni, rfl, rfl, HS, HGD⟩ := hrel
    by_cases hlt : i < L.length
    · obtain ⟨a, rfl, hca0⟩ := HC.out i hlt
      have hca := (HS.out.below.cell (World.block_lt_of_cell? _ _ hca0)).trans hca0
      have hd : L.drop i = L[i] :: L.drop (i + 1) := List.drop_eq_getElem_cons hlt
      have hgd := HGD.out
      rw [hd] at hgd
      have hsl : (L[i]'hlt).length ≤ 100 := HLEN.out _ (List.getElem_mem hlt)
      have hil : (i : Int) < (L.length : Int) := by go_light; omega
      generalize L[i]'hlt = sj at *
      have HF : Hid (∀ k, stepE base (i : Int) ((ws, ns), qs) sj = .error k → fin = .error ((i : Int), k)) := by
        intro k hk
        rw [← HG.out]
        unfold runE
        rw [hgd]
        simp only [goodE, hk]
      have HGN : Hid (∀ st', stepE base (i : Int) ((ws, ns), qs) sj = .ok st' → goodE base 0 L (([], []), []) = goodE base ((i : Int) + 1) (L.drop (i + 1)) st') := by
        intro st' hk
        rw [hgd]
        simp only [goodE, hk]
      clear hca0 hd hgd
      go_upto_block 1 with fail
      rename Act → World → Prop => K1
      refine wp_mono (doc_round1 L.length cap a i sj hsl base hb0 hb1 ws ns qs (by go_light; omega) (by go_light; omega) w wr _ _ _ fin HS hil hca HF _ _ _ _ _ _ _ _ _ _ _ _ _ _ _ _ _ _ _ _ _ _ _ _ _ _ _ _ _ _ _ _ _ _ _ _ _ _ _ _ _ _ _ _ _ _ _ _ _ _ _ _ _ _ _ _ _ _ _ _ _ _ _ _ _ _ _ _ _ _ _ _ _ _ _ _ _ _ _ _ _ _ _ _ _ _ _ _ _ _ _ _ _ _ _ _ _ _ _ _ _ _ _ _ _ _ _ _ _ _ _ _ _ _ _ _ _ _ _ _ _ _ _ _ _ _ _ _ _ _ _ _ _ _ _ _ _ _ _ _ _ _ _ _ _ _ _ _ _ _ _ _ _ _ _ _ _ _ _ _ _ _ _ _ _ _ _ _ _ _ _ _ _ _ _ _ _ _ _ _ _ _ _ _ _ _ _ _ _ _ _ _ _ _ _ _ _ _ _ _ _ _ _ _ _ _ _ _ _ _ _ _ _ _ _ _ _ _ _ _ _ _ _ _ _ _ _ _ _ _ _ _ _ _ _ _ _ _ _ _ _ _ K1 ?_) ?_
      · intro u6 u7 u8 u10 u11 u12 u13 u14 u15 u16 u17 u18 u19 u20 u47 u48 u49 u50 u51 u52 u53 u54 u55 u56 u57 u58 u59 u60 u61 u62 u63 u64 u65 u66 u67 u68 u69 u70 u71 u72 u73 u74 u75 u76 u77 u78 u79 u80 u81 u82 u83 u84 u85 u86 u87 u88 u89 u90 u91 u92 u93 u94 u95 u96 u97 u98 u99 u100 u101 u102 u103 u104 u105 u106 u107 u108 u109 u110 u111 u112 u113 u114 u115 u116 u117 u118 u119 u120 u121 u122 u123 u124 u125 u126 u127 u128 u129 u130 u131 u132 u133 u134 u135 u136 u137 u138 u139 u140 u141 u142 u143 w' st' hst HS'
        obtain ⟨⟨ws', ns'⟩, qs'⟩ := st'
        have hlen2 := stepE_len hst
        have hns := stepE_names hst
        have HG2 := HGN.out _ hst
        go_wp2_with fail
        go_roundw
        case rel =>
          refine ⟨i + 1, ws', ns', qs', hlt, ?_, ?_, rfl, by go_num, HS', ?_⟩
          · have := hlen2.1; simp only at this; go_light; omega
          · simp only at hns; go_light; omega
          · rw [show ((i + 1 : Nat) : Int) = (i : Int) + 1 from by go_num]; exact HG2
        case measure => go_light; simp [intOf]; omega
      · intro e a' w' hq
        cases e with
        | normal => exact hq
        | ret => exact hq
        | panic ch => exact hq
        | outgrown => exact hq
        | exit id => exact False.elim hq
        | goto l => exact False.elim hq
    · have hie : i = L.length := by go_light; omega
      have hgd := HGD.out
      rw [hie, List.drop_length] at hgd
      have hok : goodE base 0 L (([], []), []) = .ok ((ws, ns), qs) := by rw [hgd]; rfl
      obtain ⟨hkq, hkn⟩ := goodE_keeps L 0 _ _ hok HLEN.out (fun q hq => by cases hq) (fun x hx => by cases hx)
      obtain ⟨hwq, hwn⟩ := goodE_waits L 0 _ _ hok
      simp only [List.nil_append, List.length_nil, Nat.zero_add] at hwq hwn hkq hkn
      have HNR := Lib.hid hkn
      have HF0 : Hid (settleE base ns (waitsL 0 0 L) ws = fin) := by
        show _ = _
        rw [← HG.out]
        unfold runE
        rw [hok]
        simp only
        rw [hwq]
      have HW0 : Hid (∀ q ∈ waitsL 0 0 L, WaitOK ws q) := by rw [← hwq]; exact hkq
      have HWN := Lib.hid hwn
      have hwi2 : ws.length ≤ 200 := by omega
      have hni2 : ns.length ≤ 200 := by omega
      clear hgd hok hkq hkn hwq hwn HGD hwi hni hi
      subst hie
      go_wp2_with fail
      go_loopw [4, 21, 22] (fun rv cv kv wx => ∃ (j k : Nat) (ws' : List Int), j ≤ L.length ∧ rv = .slice none 0 0 ∧ cv = .int .i64 (k : Int) ∧ kv = .int .i64 (j : Int) ∧ ws'.length = ws.length ∧ Hid (k + wordsL (L.drop j) = ws.length) ∧ Hid (DocS w wx _ _ _ ns ws') ∧ Hid (settleE base ns (waitsL (j : Int) k (L.drop j)) ws' = fin) ∧ Hid (∀ q ∈ waitsL (j : Int) k (L.drop j), WaitOK ws' q)) (fun _ _ kv _ => L.length - (intOf kv).toNat)
      case atStart => exact ⟨0, 0, ws, Nat.zero_le _, rfl, rfl, rfl, rfl, by show _ = _; rw [Nat.zero_add]; exact HWN.out.symm, HS, HF0, HW0⟩
      case round =>
        obtain ⟨j, k, ws', hj, rfl, rfl, rfl, hwl', HKW, HSJ, HFJ, HWJ⟩ := hrel
        by_cases hlt2 : j < L.length
        · obtain ⟨a, rfl, hca0⟩ := HC.out j hlt2
          have hca := (HSJ.out.below.cell (World.block_lt_of_cell? _ _ hca0)).trans hca0
          have hd : L.drop j = L[j] :: L.drop (j + 1) := List.drop_eq_getElem_cons hlt2
          rw [hd] at HKW HFJ HWJ
          have hsl : (L[j]'hlt2).length ≤ 100 := HLEN.out _ (List.getElem_mem hlt2)
          have hjl : (j : Int) < (L.length : Int) := by go_light; omega
          generalize L[j]'hlt2 = sj at *
          clear hca0 hd
          go_upto_block 6 with fail
          rename Act → World → Prop => K1
          refine wp_mono (doc_round2 L.length cap a j sj (L.drop (j + 1)) hsl base hb0 hb1 k ws' ns (by rw [hwl']; exact HKW.out) (by go_light; omega) (by go_light; omega) HNR w _ _ _ _ fin HSJ hjl hca HFJ HWJ _ _ _ _ _ _ _ _ _ _ _ _ _ _ _ _ _ _ _ _ _ _ _ _ _ _ _ _ _ _ _ _ _ _ _ _ _ _ _ _ _ _ _ _ _ _ _ _ _ _ _ _ _ _ _ _ _ _ _ _ _ _ _ _ _ _ _ _ _ _ _ _ _ _ _ _ _ _ _ _ _ _ _ _ _ _ _ _ _ _ _ _ _ _ _ _ _ _ _ _ _ _ _ _ _ _ _ _ _ _ _ _ _ _ _ _ _ _ _ _ _ _ _ _ _ _ _ _ _ _ _ _ _ _ _ _ _ _ _ _ _ _ _ _ _ _ _ _ _ _ _ _ _ _ _ _ _ _ _ _ _ _ _ _ _ _ _ _ _ _ _ _ _ _ _ _ _ _ _ _ _ _ _ _ _ _ _ _ _ _ _ _ _ _ _ _ _ _ _ _ _ _ _ _ _ _ _ _ _ _ _ _ _ _ _ _ _ _ _ _ _ _ _ _ _ _ _ _ _ _ _ _ _ _ _ _ _ _ _ _ _ K1 ?_) ?_
          · intro u21 u23 u24 u25 u26 u27 u28 u29 u30 u31 u32 u150 u151 u152 u153 u154 u155 u156 u157 u158 u159 u160 u161 u162 u163 u164 u165 u166 u167 u168 u169 u170 u171 u172 u173 u174 u175 u176 u177 u178 u179 u180 u181 u182 u183 u184 u185 u186 u187 u188 u189 u190 u191 u192 u193 u194 u195 u196 u197 u198 u199 u200 u201 u202 u203 u204 u205 u206 u207 u208 u209 u210 u211 u212 u213 u214 u215 u216 u217 u218 u219 u220 u221 u222 u223 u224 u225 u226 u227 u228 u229 u230 u231 u232 u233 u234 u235 u236 u237 u238 u239 u240 u241 u242 u243 u244 u245 u246 u247 w' k' ws2 e21 hl2 hk2 HS2 HF2 HW2
            subst e21
            go_wp2_with fail
            go_roundw
            case rel =>
              refine ⟨j + 1, k', ws2, hlt2, rfl, rfl, by go_num, hl2.trans hwl', by rw [← hwl']; exact hk2, HS2, ?_, ?_⟩
              · rw [show ((j + 1 : Nat) : Int) = (j : Int) + 1 from by go_num]; exact HF2
              · rw [show ((j + 1 : Nat) : Int) = (j : Int) + 1 from by go_num]; exact HW2
            case measure => go_light; simp [intOf]; omega
          · intro e a' w' hq
            cases e with
            | normal => exact hq
            | ret => exact hq
            | panic ch => exact hq
            | outgrown => exact hq
            | exit id => exact False.elim hq
            | goto l => exact False.elim hq
        · have hje : j = L.length := by go_light; omega
          have HFIN : Hid (fin = .ok ws') := by
            show _ = _
            rw [← HFJ.out, hje, List.drop_length]
            rfl
          subst hje
          clear HFJ HWJ HKW hlt2
          go_wp2_with fail
          refine (fine_any _).mono ?_
          rintro e w5 ⟨rfl, hb5⟩
          have HS5 := Lib.hid (HSJ.out.trans hb5)
          clear hb5
          have HG5 := Lib.hid (Duo.fill HS5.out.res (.int .i64 0) (.int .i64 (-1)))
          have HFN := Lib.hid (below_fill2 HS5.out.below (Nat.le_refl _) (.int .i64 0) (.int .i64 (-1)))
          have HWF := Lib.hid (HS5.out.wordsFill (.int .i64 0) (.int .i64 (-1)))
          obtain ⟨c0, c1, g0, g1⟩ := Duo.cells HS5.out.res
          go_wp2_with fail
          change bodyPost _ _ _ _ _ (fill2 w5 w.heap.size (.int .i64 0) (.int .i64 (-1)))
          clear c0 c1 g0 g1
          generalize fill2 w5 w.heap.size (.int .i64 0) (.int .i64 (-1)) = W5 at *
          obtain ⟨q0, q1, _, _⟩ := Duo.cells HG5.out
          exact bodyPost_ret (v := .tuple #[_, .agg #[.int .i64 0, .int .i64 (-1)]]) (by simp [results, Tryz.f23, go_sem, q0, q1]) rfl ⟨HFN.out, Or.inl ⟨ws', _, HFIN.out, rfl, ArgW.own HWF.out⟩⟩
end Go.Proofs.YtnppegldebocmaaGreatDoor
namespace Go.Proofs.YtnppegldebocmaaGreatDoor
open Go.RowKit Go.Extern.Stop Go.Stop Go.Extern
set_option linter.unusedVariables false
theorem valueOfP (e : Addr) (w : World) : (ReflectliteValue.unpack (.iface 93 (.pointer (some e)))).run Tryz.prog w
    = .ok (.agg #[.pointer (some ⟨19, 93, none⟩), .pointer (some ⟨w.heap.size, 0, none⟩), .int .u64 150]) (w.alloc (.cells #[.pointer (some e)] 93)) := by kernel_rfl
theorem elemOfPP (w : World) : (Rtype.elem? 116).run Tryz.prog w = .ok (some 93) w := by kernel_rfl
theorem mkP (p : Addr) (w : World) : (ReflectliteValue.mk 93 p ReflectliteValue.flagAddr).run Tryz.prog w = .ok (.agg #[.pointer (some ⟨19, 93, none⟩), .pointer (some p), .int .u64 406]) w := by kernel_rfl
theorem elemVPP (a p : Addr) (W : World) (ha : W.cell? a = some (.pointer (some p))) :
    (ReflectliteValue.method (ReflectliteValue.valueError "reflectlite.Value.Elem" 0) ReflectliteValue.elem #[.agg #[.pointer (some ⟨19, 116, none⟩), .pointer (some a), .int .u64 150]]).run Tryz.prog W
      = .ok (.agg #[.pointer (some ⟨19, 93, none⟩), .pointer (some p), .int .u64 406]) W := by
  rw [rlm]
  simp only [Sem.run_bind, partsPP, Result.andThen]
  simp [ReflectliteValue.elem, loadVar, isAgg, underlying, Tryz.underlying116, ha, Result.andThen, elemOfPP, mkP]
theorem rls (v x : Value) : ReflectliteValue.set #[v, x] = (do
    let (some (dst, a, fl), some (src, b, _)) := (← ReflectliteValue.parts v, ← ReflectliteValue.parts x)
      | unsupported (.noEntry "extern/(internal/reflectlite.Value).Set.zeroValue")
    if fl / ReflectliteValue.flagAddr % 2 == 0 then unsupported (.noEntry "extern/(internal/reflectlite.Value).Set.unaddressable")
    let val ← loadVar src b
    if ← Rtype.directlyAssignable dst src then storeVar dst a val
    else if ← Rtype.implements dst src then
      if (← Rtype.kind src) == 20 then
        match val with
        | .nilIface => unsupported (.noEntry "extern/reflectlite: a nil value of one interface type handed on as a value of another")
        | _ => storeVar dst a val
      else storeVar dst a (.iface src val)
    else panicString ("reflectlite.Set: value of type " ++ (← Rtype.spelt src) ++ " is not assignable to type " ++ (← Rtype.spelt dst))
    pure (.tuple #[])) := rfl
theorem partsPa (a : Addr) (w : World) : (ReflectliteValue.parts (.agg #[.pointer (some ⟨19, 93, none⟩), .pointer (some a), .int .u64 406])).run Tryz.prog w = .ok (some (93, a, 406)) w := by kernel_rfl
theorem partsP (a : Addr) (w : World) : (ReflectliteValue.parts (.agg #[.pointer (some ⟨19, 93, none⟩), .pointer (some a), .int .u64 150])).run Tryz.prog w = .ok (some (93, a, 150)) w := by kernel_rfl
theorem directP (w : World) : (Rtype.directlyAssignable 93 93).run Tryz.prog w = .ok true w := by kernel_rfl
theorem setP (ta b e : Addr) (old : Value) (W : World) (hb : W.cell? b = some (.pointer (some e))) (ht : W.cell? ta = some old) (hf : W.frozen? ta = false) :
    (ReflectliteValue.set #[.agg #[.pointer (some ⟨19, 93, none⟩), .pointer (some ta), .int .u64 406], .agg #[.pointer (some ⟨19, 93, none⟩), .pointer (some b), .int .u64 150]]).run Tryz.prog W
      = .ok (.tuple #[]) (W.setCell ta (.pointer (some e))) := by
  rw [rls]
  simp only [Sem.run_bind, partsPa, partsP, Result.andThen]
  simp [ReflectliteValue.flagAddr, loadVar, isAgg, underlying, Tryz.underlying93, hb, Result.andThen, directP, storeVar, Value.cells, storeCells, Addr.add]
  rw [run_store Tryz.prog W ta _ _ (by rfl)]
  simp [ht, hf]
set_option maxHeartbeats 4000000 in
set_option maxRecDepth 100000 in
theorem as_hit (e t : Addr) (old : Value) (w : World) (hg : w.cell? ⟨10, 0, none⟩ = some (.iface 167 (.agg #[.pointer (some ⟨19, 27, none⟩)]))) (ht0 : w.cell? t = some old) (hf0 : w.frozen? t = false) :
    Calls Tryz.prog 68 #[.iface 93 (.pointer (some e)), .iface 116 (.pointer (some t))] w fun ev w' => ev = .returned (.bool true) ∧ ∃ w4, w' = w4.setCell t (.pointer (some e)) ∧ Below w.heap.size w w4 := by
  have hVal := @run_callFunc_extern Tryz.prog 94 _ (fun args => ReflectliteValue.unpack (args.getD 0 (.tuple #[]))) Tryz.func94 (by kernel_rfl) (by kernel_rfl) (by kernel_rfl) (by kernel_rfl)
  have hTy := @run_callFunc_extern Tryz.prog 95 _ (ReflectliteValue.methodAny (ReflectliteValue.valueError "reflectlite.Value.Type" 0) (fun t _ _ _ => ReflectliteType.toType t)) Tryz.func95 (by kernel_rfl) (by kernel_rfl) (by kernel_rfl) (by kernel_rfl)
  have hNil := @run_callFunc_extern Tryz.prog 96 _ (ReflectliteValue.method (ReflectliteValue.valueError "reflectlite.Value.IsNil" 0) ReflectliteValue.isNil) Tryz.func96 (by kernel_rfl) (by kernel_rfl) (by kernel_rfl) (by kernel_rfl)
  have hKind := @run_callFunc_extern Tryz.prog 185 _ (ReflectliteType.abiMethod fun t => do pure (.int .u8 (← Rtype.kind t))) Tryz.func185 (by kernel_rfl) (by kernel_rfl) (by kernel_rfl) (by kernel_rfl)
  have hElem := @run_callFunc_extern Tryz.prog 197 _ (ReflectliteType.method ReflectliteType.elem) Tryz.func197 (by kernel_rfl) (by kernel_rfl) (by kernel_rfl) (by kernel_rfl)
  have hImp := @run_callFunc_extern Tryz.prog 198 _ (ReflectliteType.relation "Implements" ReflectliteType.implements_) Tryz.func198 (by kernel_rfl) (by kernel_rfl) (by kernel_rfl) (by kernel_rfl)
  have hTypeOf := @run_callFunc_extern Tryz.prog 98 _ (ReflectliteType.typeOf) Tryz.func98 (by kernel_rfl) (by kernel_rfl) (by kernel_rfl) (by kernel_rfl)
  have hAss := @run_callFunc_extern Tryz.prog 195 _ (ReflectliteType.relation "AssignableTo" ReflectliteType.assignableTo) Tryz.func195 (by kernel_rfl) (by kernel_rfl) (by kernel_rfl) (by kernel_rfl)
  have hVEl := @run_callFunc_extern Tryz.prog 123 _ (ReflectliteValue.method (ReflectliteValue.valueError "reflectlite.Value.Elem" 0) ReflectliteValue.elem) Tryz.func123 (by kernel_rfl) (by kernel_rfl) (by kernel_rfl) (by kernel_rfl)
  have hVSet := @run_callFunc_extern Tryz.prog 124 _ ReflectliteValue.set Tryz.func124 (by kernel_rfl) (by kernel_rfl) (by kernel_rfl) (by kernel_rfl)
  have fPP := valueOfPP
  have tPP := typePP
  have kPP := kindPP
  have kP := kindP
  have ePP := elemPP
  have iP := implementsP
  have oP := typeOfP
  have aP := assignP
  have vP := valueOfP
  have hlt := World.block_lt_of_cell? w _ hg
  have htl := World.block_lt_of_cell? w _ ht0
  have n8 := isNilPP ⟨w.heap.size, 0, none⟩ t ((w.alloc (.cells #[.pointer (some t)] 116)).alloc (.cells #[.pointer (some ⟨19, 116, none⟩), .pointer (some ⟨w.heap.size, 0, none⟩), .int .u64 150] 137)) (by simp)
  have hg2 : ((w.alloc (.cells #[.pointer (some t)] 116)).alloc (.cells #[.pointer (some ⟨19, 116, none⟩), .pointer (some ⟨w.heap.size, 0, none⟩), .int .u64 150] 137)).cell? ⟨10, 0, none⟩ = some (.iface 167 (.agg #[.pointer (some ⟨19, 27, none⟩)])) := by
    rw [World.cell?_alloc_lt _ _ ⟨10, 0, none⟩ (by simp; exact Nat.lt_succ_of_lt hlt), World.cell?_alloc_lt _ _ ⟨10, 0, none⟩ hlt]; exact hg
  have el := elemVPP ⟨w.heap.size, 0, none⟩ t (((w.alloc (.cells #[.pointer (some t)] 116)).alloc (.cells #[.pointer (some ⟨19, 116, none⟩), .pointer (some ⟨w.heap.size, 0, none⟩), .int .u64 150] 137)).alloc (.cells #[.pointer (some ⟨19, 116, none⟩), .pointer (some ⟨w.heap.size, 0, none⟩), .int .u64 150] 137)) (by rw [World.cell?_alloc_lt _ _ ⟨w.heap.size, 0, none⟩ (by simp; omega)]; simp)
  have st := setP t ⟨w.heap.size + 1 + 1 + 1, 0, none⟩ e old ((((w.alloc (.cells #[.pointer (some t)] 116)).alloc (.cells #[.pointer (some ⟨19, 116, none⟩), .pointer (some ⟨w.heap.size, 0, none⟩), .int .u64 150] 137)).alloc (.cells #[.pointer (some ⟨19, 116, none⟩), .pointer (some ⟨w.heap.size, 0, none⟩), .int .u64 150] 137)).alloc (.cells #[.pointer (some e)] 93))
    (by rw [World.cell?_alloc_at _ _ _ _ (by simp)]; rfl)
    (by rw [World.cell?_alloc_lt _ _ t (by simp; omega), World.cell?_alloc_lt _ _ t (by simp; omega), World.cell?_alloc_lt _ _ t (by simp; omega), World.cell?_alloc_lt _ _ t htl]; exact ht0)
    (by rw [World.frozen?_alloc_old _ _ t (by simp; omega), World.frozen?_alloc_old _ _ t (by simp; omega), World.frozen?_alloc_old _ _ t (by simp; omega), World.frozen?_alloc_old _ _ t (Nat.ne_of_lt htl)]; exact hf0)
  go_enter Tryz.func68, Tryz.ntmps68
  go_wp2
  refine wp_loop_rounds 1 ?_
  rw [rounds_succ]
  go_wp2
  go_ret
  exact ⟨rfl, _, rfl, by go_grown⟩
theorem noIsF (v : Value) (w : World) : (Instr.typeAssert (.iface 93 v) 27 178 true).run Tryz.prog w = .ok (.tuple #[.nilIface, .bool false]) w := run_typeAssert_lacksB Tryz.underlying178 (by kernel_rfl) (by kernel_rfl) v 27 w
theorem hasUnwrapF (v : Value) (w : World) : (Instr.typeAssert (.iface 93 v) 27 174 true).run Tryz.prog w = .ok (.tuple #[.iface 93 v, .bool true]) w := run_typeAssert_hasB Tryz.underlying174 (by kernel_rfl) v 27 w
theorem eqlF (v u : Value) (w : World) : (binOp .eql 27 (.iface 93 v) (.iface 214 u)).run Tryz.prog w = .ok (.bool false) w := run_eql_iface_types _ _ v u Tryz.underlying27 (by decide) w
set_option maxHeartbeats 2000000 in
set_option maxRecDepth 100000 in
theorem is_fault_same (a : Addr) (b : Nat) (i : Int) (w : World) (hb : Duo w b 95 (.int .i64 i) (.iface 214 (.pointer (some a)))) :
    Calls Tryz.prog 69 #[.iface 93 (.pointer (some ⟨b, 0, none⟩)), .iface 214 (.pointer (some a))] w fun ev w' => ev = .returned (.bool true) ∧ w = w' := by
  obtain ⟨c0, c1, _, _⟩ := Duo.cells hb
  clear hb
  have he := eql_same a
  have hF := eqlF
  have oE := typeOfE
  have hTypeOf := @run_callFunc_extern Tryz.prog 98 _ (ReflectliteType.typeOf) Tryz.func98 (by kernel_rfl) (by kernel_rfl) (by kernel_rfl) (by kernel_rfl)
  have hComp := @run_callFunc_extern Tryz.prog 196 _ (ReflectliteType.method (fun t => do Rtype.noPackHeld "Comparable" t; pure (.bool (← typeInfo t).comparable))) Tryz.func196 (by kernel_rfl) (by kernel_rfl) (by kernel_rfl) (by kernel_rfl)
  have cE := compE
  have nI := noIs
  have nU := noUnwrap
  have nUs := noUnwraps
  have nIF := noIsF
  have hUF := hasUnwrapF
  go_enter Tryz.func69, Tryz.ntmps69
  go_wp2
  refine wp_loop_rounds 2 ?_
  rw [rounds_succ]
  go_wp2
  rw [rounds_succ]
  go_wp2
  go_ret
  exact ⟨rfl, rfl⟩
set_option maxHeartbeats 2000000 in
set_option maxRecDepth 100000 in
theorem is_fault_other (a d : Addr) (ca cb : Array Value) (ta tb : TypeId) (b : Nat) (i : Int) (w : World) (hb : Duo w b 95 (.int .i64 i) (.iface 214 (.pointer (some a))))
    (hne : a ≠ d) (ha : w.heap[a.block]? = some (.cells ca ta (0, 0))) (hd : w.heap[d.block]? = some (.cells cb tb (0, 0))) :
    Calls Tryz.prog 69 #[.iface 93 (.pointer (some ⟨b, 0, none⟩)), .iface 214 (.pointer (some d))] w fun ev w' => ev = .returned (.bool false) ∧ w = w' := by
  obtain ⟨c0, c1, _, _⟩ := Duo.cells hb
  clear hb
  have he := eql_other w hne ha hd
  clear hne ha hd
  have hF := eqlF
  have oE := typeOfE
  have hTypeOf := @run_callFunc_extern Tryz.prog 98 _ (ReflectliteType.typeOf) Tryz.func98 (by kernel_rfl) (by kernel_rfl) (by kernel_rfl) (by kernel_rfl)
  have hComp := @run_callFunc_extern Tryz.prog 196 _ (ReflectliteType.method (fun t => do Rtype.noPackHeld "Comparable" t; pure (.bool (← typeInfo t).comparable))) Tryz.func196 (by kernel_rfl) (by kernel_rfl) (by kernel_rfl) (by kernel_rfl)
  have cE := compE
  have nI := noIs
  have nU := noUnwrap
  have nUs := noUnwraps
  have nIF := noIsF
  have hUF := hasUnwrapF
  go_enter Tryz.func69, Tryz.ntmps69
  go_wp2
  refine wp_loop_rounds 2 ?_
  rw [rounds_succ]
  go_wp2
  rw [rounds_succ]
  go_wp2
  go_ret
  exact ⟨rfl, rfl⟩
end Go.Proofs.YtnppegldebocmaaGreatDoor
namespace Go.Proofs.YtnppegldebocmaaGreatDoor
open Go.RowKit
set_option linter.unusedVariables false
set_option linter.unusedSimpArgs false
set_option maxHeartbeats 1000000 in
theorem code_fault (k : Nat) (hk : k < 10) (ad : Nat → Addr) (b : Nat) (i : Int) (w : World) (hS : Sents w ad) (hb : Duo w b 95 (.int .i64 i) (errE ad k)) :
    Calls Tryz.prog 33 #[.iface 93 (.pointer (some ⟨b, 0, none⟩))] w fun ev w' => ev = .returned (.tuple #[.int .i64 ((k : Int) + 1), .int .i64 i]) ∧ Below w.heap.size w w' := by
  have HS := Lib.hid hS
  have HBD := Lib.hid hb
  clear hb
  go_enter Tryz.func33, Tryz.ntmps33
  go_wp2_with fail
  have hal := (Below.refl w.heap.size w).alloc (Nat.le_refl _) (.cells #[.pointer none] 93)
  have hA := hS.below hal
  have hblk : (w.alloc (.cells #[.pointer none] 93)).heap[w.heap.size]? = some (.cells #[.pointer none] 93 (0, 0)) := heap_alloc_new w _
  refine (as_hit ⟨b, 0, none⟩ ⟨w.heap.size, 0, none⟩ (.pointer none) _ hA.et (by simp) (by unfold World.frozen?; rw [hblk]; rfl)).mono ?_
  rintro e w1 ⟨rfl, w4, rfl, hb4⟩
  have hblk4 : w4.heap[w.heap.size]? = some (.cells #[.pointer none] 93 (0, 0)) := (hb4.block _ (by simp)).trans hblk
  have hblk5 : (w4.setCell ⟨w.heap.size, 0, none⟩ (.pointer (some ⟨b, 0, none⟩))).heap[w.heap.size]? = some (.cells #[.pointer (some ⟨b, 0, none⟩)] 93 (0, 0)) := Joins.block_setCell (i := 0) hblk4 _
  have hB1 : Below w.heap.size w (w4.setCell ⟨w.heap.size, 0, none⟩ (.pointer (some ⟨b, 0, none⟩))) := (hal.trans (hb4.mono (by simp))).setCell (p := ⟨w.heap.size, 0, none⟩) (Nat.le_refl _) _
  generalize w4.setCell ⟨w.heap.size, 0, none⟩ (.pointer (some ⟨b, 0, none⟩)) = w1 at *
  have hS1 := HS.out.below hB1
  have hbl : b < w.heap.size := (Array.getElem?_eq_some_iff.1 HBD.out).1
  have hD1 : Duo w1 b 95 (.int .i64 i) (errE ad k) := (hB1.block b hbl).trans HBD.out
  have ht : w1.cell? ⟨w.heap.size, 0, none⟩ = some (.pointer (some ⟨b, 0, none⟩)) := by simp [World.cell?, hblk5]
  obtain ⟨d0, d1, _, _⟩ := Duo.cells hD1
  clear hA hS hb4 hblk hblk4 hblk5 hal
  have hS1' := hS1
  obtain ⟨c0, c1, c2, c3, c4, c5, c6, c7, c8, c9, _, _, _⟩ := hS1'
  go_wp2_with fail
  have hal2 := (Below.refl w1.heap.size w1).alloc (Nat.le_refl _) (.cells #[.iface 214 (.pointer (some (ad 0))), .iface 214 (.pointer (some (ad 1))), .iface 214 (.pointer (some (ad 2))), .iface 214 (.pointer (some (ad 3))), .iface 214 (.pointer (some (ad 4))), .iface 214 (.pointer (some (ad 5))), .iface 214 (.pointer (some (ad 6))), .iface 214 (.pointer (some (ad 7))), .iface 214 (.pointer (some (ad 8))), .iface 214 (.pointer (some (ad 9)))] 27)
  have hS2 := hS1.below hal2
  have hB2 := hB1.trans (hal2.mono hB1.size)
  have HD2 : Hid (Duo _ b 95 (.int .i64 i) (errE ad k)) := Lib.hid ((hal2.block b (Nat.lt_of_lt_of_le hbl hB1.size)).trans hD1)
  have hcell := ten_cells w1 ad
  generalize (w1.alloc (.cells #[.iface 214 (.pointer (some (ad 0))), .iface 214 (.pointer (some (ad 1))), .iface 214 (.pointer (some (ad 2))), .iface 214 (.pointer (some (ad 3))), .iface 214 (.pointer (some (ad 4))), .iface 214 (.pointer (some (ad 5))), .iface 214 (.pointer (some (ad 6))), .iface 214 (.pointer (some (ad 7))), .iface 214 (.pointer (some (ad 8))), .iface 214 (.pointer (some (ad 9)))] 27)) = w2 at *
  generalize w1.heap.size = bs at *
  have HC := Lib.hid hcell
  have HB2 := Lib.hid hB2
  clear hcell c0 c1 c2 c3 c4 c5 c6 c7 c8 c9 hS1 hB1 d0 d1 ht hD1 hal2 hB2
  go_loop [3, 28] (fun at3 v => ∃ j : Nat, j ≤ k ∧ v = .int .i64 (j : Int) ∧ at3 = .int .i64 i) (fun _ v => k - (intOf v).toNat)
  case atStart => exact ⟨0, Nat.zero_le _, rfl, rfl⟩
  case round =>
    obtain ⟨j, hj, rfl, rfl⟩ := hrel
    have hci := HC.out j (by omega)
    have hi10 : (j : Int) < 10 := by omega
    by_cases hik : j = k
    · subst hik
      go_wp2_with (go_at_call 69; refine (is_fault_same (ad j) b i _ HD2.out).mono ?_; rintro e w' ⟨rfl, rfl⟩)
      go_ret2
      exact ⟨rfl, HB2.out⟩
    · obtain ⟨ca, ta, hra⟩ := hS2.rows k hk
      obtain ⟨cb, tb, hrb⟩ := hS2.rows j (by omega)
      have hne : ad k ≠ ad j := hS2.apart k j hk (by omega) (fun e => hik e.symm)
      have HNE := Lib.hid hne
      have HRA := Lib.hid hra
      have HRB := Lib.hid hrb
      clear hne hra hrb
      go_wp2_with (go_at_call 69; refine (is_fault_other (ad k) (ad j) ca cb ta tb b i _ HD2.out HNE.out HRA.out HRB.out).mono ?_; rintro e w' ⟨rfl, rfl⟩)
      go_round
      case rel => exact ⟨j + 1, by omega, by go_num, rfl⟩
      case measure => simp [intOf]; omega
/-- An error, its number and its place. -/
def ErrIs (w : World) (ad : Nat → Addr) (err : Value) (c at' : Int) : Prop :=
  (err = .nilIface ∧ c = 0 ∧ at' = -1) ∨ (∃ k : Nat, k < 10 ∧ err = errE ad k ∧ c = (k : Int) + 1 ∧ at' = -1) ∨
  (∃ (k b : Nat), k < 10 ∧ err = .iface 93 (.pointer (some ⟨b, 0, none⟩)) ∧ Duo w b 95 (.int .i64 at') (errE ad k) ∧ c = (k : Int) + 1)
theorem ErrIs.below {w w' : World} {ad : Nat → Addr} {err : Value} {c at' : Int} (h : ErrIs w ad err c at') (hb : Below w.heap.size w w') : ErrIs w' ad err c at' := by
  rcases h with h | h | ⟨k, b, h1, h2, h3, h4⟩
  · exact Or.inl h
  · exact Or.inr (Or.inl h)
  · exact Or.inr (Or.inr ⟨k, b, h1, h2, (hb.block b (Array.getElem?_eq_some_iff.1 h3).1).trans h3, h4⟩)
theorem err_code {w : World} {ad : Nat → Addr} {err : Value} {c at' : Int} (h : ErrIs w ad err c at') (hS : Sents w ad) : Calls Tryz.prog 33 #[err] w fun ev w' => ev = .returned (.tuple #[.int .i64 c, .int .i64 at']) ∧ Below w.heap.size w w' := by
  rcases h with ⟨rfl, rfl, rfl⟩ | ⟨k, hk, rfl, rfl, rfl⟩ | ⟨k, b, hk, rfl, hd, rfl⟩
  · exact (code_nil w).mono fun e w' h => ⟨h.1, by rw [h.2]; exact Below.refl _ _⟩
  · exact code_sent k hk ad w hS
  · exact code_fault k hk ad b at' w hS hd
set_option maxHeartbeats 1000000 in
theorem faulted_ok {w : World} {ad : Nat → Addr} {err : Value} {c at' : Int} (h : ErrIs w ad err c at') (hS : Sents w ad) :
    Calls Tryz.prog 24 #[err, .agg #[.int .i64 c, .int .i64 at']] w fun ev w' => ev = .returned (.bool true) ∧ Below w.heap.size w w' := by
  have hal := (Below.refl w.heap.size w).alloc (Nat.le_refl _) (.cells #[.int .i64 c, .int .i64 at'] 55)
  have hD : Duo (w.alloc (.cells #[.int .i64 c, .int .i64 at'] 55)) w.heap.size 55 (.int .i64 c) (.int .i64 at') := heap_alloc_new w _
  have HE := Lib.hid (err_code (h.below hal) (hS.below hal))
  have HAL := Lib.hid hal
  have HD := Lib.hid hD
  clear h hS hal hD
  go_enter Tryz.func24, Tryz.ntmps24
  go_wp2_with fail
  refine HE.out.mono ?_
  rintro e w2 ⟨rfl, hb2⟩
  have HB2 := Lib.hid (HAL.out.trans (hb2.mono HAL.out.size))
  obtain ⟨d0, d1, _, _⟩ := Duo.cells (show Duo w2 w.heap.size 55 (.int .i64 c) (.int .i64 at') from (hb2.block _ (by simp)).trans HD.out)
  clear hb2 HE HD HAL
  by_cases h0 : c = 0
  · have h0' : (c == 0) = true := beq_iff_eq.2 h0
    clear h0
    go_wp2_with fail
    go_ret
    exact ⟨rfl, HB2.out⟩
  · have h0' : (c == 0) = false := beq_eq_false_iff_ne.2 h0
    clear h0
    go_wp2_with fail
    go_ret
    exact ⟨rfl, HB2.out⟩
set_option maxHeartbeats 1000000 in
theorem long_any (L : List (List UInt8)) (v : Value) (w : World) (hv : ArgT w v L) :
    Calls Tryz.prog 21 #[v, .int .i64 210, .int .i64 60] w fun e w' => ((e = .returned (.int .i64 0) ∧ L.length ≤ 210 ∧ ∀ s ∈ L, s.length ≤ 60) ∨ e = .returned (.int .i64 1)) ∧ Below w.heap.size w w' := by
  obtain ⟨p, cap, rfl, hc⟩ := hv
  have HC := Lib.hid hc
  clear hc
  by_cases h210 : 210 < L.length
  · have h210' : (210 : Int) < (L.length : Int) := by omega
    go_enter Tryz.func21, Tryz.ntmps21
    go_wp2
    go_ret
    exact ⟨Or.inr rfl, Below.refl _ _⟩
  · have h210' : ¬ (210 : Int) < (L.length : Int) := by omega
    have HL : Hid (L.length ≤ 210) := by show _ ≤ _; omega
    clear h210
    go_enter Tryz.func21, Tryz.ntmps21
    go_wp2
    go_loop [6, 7] (fun rv kv => ∃ i : Nat, i ≤ L.length ∧ rv = .int .i64 0 ∧ kv = .int .i64 (i : Int) ∧ Hid (∀ j (h : j < L.length), j < i → (L[j]'h).length ≤ 60)) (fun _ kv => L.length - (intOf kv).toNat)
    case atStart => exact ⟨0, Nat.zero_le _, rfl, rfl, fun j h hj => absurd hj (Nat.not_lt_zero j)⟩
    case round =>
      obtain ⟨i, hi, rfl, rfl, HN⟩ := hrel
      by_cases hlt : i < L.length
      · obtain ⟨a, rfl, hca⟩ := HC.out i hlt
        have hsz := bsl_size (L[i]'hlt)
        have hil : (i : Int) < (L.length : Int) := by omega
        by_cases h60 : 60 < (L[i]'hlt).length
        · have h60' : (60 : Int) < ((L[i]'hlt).length : Int) := by omega
          generalize L[i]'hlt = s at *
          go_wp2
          go_ret
          exact ⟨Or.inr rfl, Below.refl _ _⟩
        · have h60' : ¬ (60 : Int) < ((L[i]'hlt).length : Int) := by omega
          have H6 : Hid ((L[i]'hlt).length ≤ 60) := by show _ ≤ _; omega
          obtain ⟨s, hs⟩ : ∃ s, L[i]'hlt = s := ⟨_, rfl⟩
          rw [hs] at hca hsz h60'
          clear h60 hs
          go_wp2
          go_round
          case rel =>
            refine ⟨i + 1, hlt, rfl, by go_num, fun j h hj => ?_⟩
            by_cases e : j = i
            · subst e; exact H6.out
            · exact HN.out j h (by omega)
          case measure => simp [intOf]; omega
      · have HALL : Hid (∀ s ∈ L, s.length ≤ 60) := by
          intro s hs
          obtain ⟨j, hj, e⟩ := List.getElem_of_mem hs
          rw [← e]
          exact HN.out j hj (by omega)
        have hie : i = L.length := by omega
        subst hie
        clear hlt
        go_wp2
        go_ret
        exact ⟨Or.inl ⟨rfl, HL.out, HALL.out⟩, Below.refl _ _⟩
/-- Texts as an argument holds them: nil, or cells one behind the other. -/
def ArgS (w : World) (v : Value) (L : List (List UInt8)) : Prop :=
  (v = .slice none 0 0 ∧ L = []) ∨ ∃ a cap, v = .slice (some a) L.length cap ∧ ∀ j (h : j < L.length), w.cell? (a.add j) = some (.string (bsl L[j]))
theorem ArgS.argT {w : World} {v : Value} {L : List (List UInt8)} (h : ArgS w v L) : ArgT w v L := by
  rcases h with ⟨rfl, rfl⟩ | ⟨a, cap, rfl, hc⟩
  · exact ⟨none, 0, rfl, fun j hj => absurd hj (Nat.not_lt_zero j)⟩
  · exact ⟨some a, cap, rfl, fun j hj => ⟨a, rfl, hc j hj⟩⟩
theorem ArgS.below {w w' : World} {v : Value} {L : List (List UInt8)} (h : ArgS w v L) (hb : Below w.heap.size w w') : ArgS w' v L := by
  rcases h with h | ⟨a, cap, e, hc⟩
  · exact Or.inl h
  · exact Or.inr ⟨a, cap, e, fun j hj => (hb.cell (World.block_lt_of_cell? _ _ (hc j hj))).trans (hc j hj)⟩
set_option maxHeartbeats 2000000 in
set_option maxRecDepth 1000000 in
theorem own_any (L : List (List UInt8)) (hL : L.length ≤ 1000) (v : Value) (w : World) (hv : ArgS w v L) :
    Calls Tryz.prog 22 #[v] w fun e w' => ∃ v', e = .returned v' ∧ w'.ownsRow w.heap.size 9 1 v' L.length (L.map fun s => .string (bsl s)) ∧ Below w.heap.size w w' := by
  obtain ⟨iS, hS1, hS2, hS3, hS4⟩ := info_parts Tryz.infoS
  rcases hv with ⟨rfl, rfl⟩ | ⟨a, cap, rfl, hc⟩
  · go_enter Tryz.func22, Tryz.ntmps22
    go_wp2_with (at_builtin; refine wpList_append_own_none rfl (.tmp 4) (.tmp 5) 40 rfl w.heap.size 9 iS 1 Tryz.underlying40 hS1 (.slice none 0 0) 0 [] rfl (World.ownsRow_nil _ _ _ _) rfl ?_)
    go_wp2_with fail
    go_ret
    exact ⟨_, rfl, World.ownsRow_nil _ _ _ _, Below.refl _ _⟩
  · have HC := Lib.hid hc
    clear hc
    go_enter Tryz.func22, Tryz.ntmps22
    go_wp2_with (at_builtin; refine wpList_append_own _ rfl (.tmp 4) (.tmp 5) 40 rfl w.heap.size 9 iS (.string ByteArray.empty) 1 16 Tryz.underlying40 hS1 hS2 hS3 hS4 rfl (by decide) (.slice none 0 0) 0 [] rfl (World.ownsRow_nil _ _ _ _) a L.length cap (L.map fun s => .string (bsl s)) rfl (by simp) (fun j u hj => by rw [List.getElem?_map] at hj; obtain ⟨s, hs, rfl⟩ := Option.map_eq_some_iff.1 hj; obtain ⟨hjl, e⟩ := List.getElem?_eq_some_iff.1 hs; rw [← e]; exact HC.out j hjl) (fun u hu => by obtain ⟨s, _, rfl⟩ := List.mem_map.1 hu; rfl) (by unfold maxLen; omega) (by omega) (Nat.le_refl _) ?_)
    intro v' w4 hown4 hgrow4 _
    have HO : Hid (w4.ownsRow w.heap.size 9 1 v' L.length (L.map fun s => .string (bsl s))) := by
      show World.ownsRow _ _ _ _ _ _ _
      simpa using hown4
    have HB : Hid (Below w.heap.size w w4) := (Below.refl w.heap.size w).grown hgrow4 (Nat.le_refl _) (fun k hk => by cases hk)
    clear hown4 hgrow4
    go_wp2_with fail
    go_ret
    exact ⟨_, rfl, HO.out, HB.out⟩
set_option maxRecDepth 1000000 in
theorem asm_full (n : Nat) (h : 200 < n) (p : Option Addr) (cap : Nat) (base : Int) (ad : Nat → Addr) (mz : Int) (w : World) (hP : PW w ad mz) :
    Calls Tryz.prog 16 #[.slice p n cap, .int .u32 base] w fun e w' => e = .returned (.tuple #[.slice none 0 0, errE ad 7]) ∧ Below w.heap.size w w' := by
  have c7 := hP.se.c7
  have h' : (200 : Int) < (n : Int) := by omega
  clear hP
  go_enter Tryz.func16, Tryz.ntmps16
  go_wp2_with fail
  go_quiet (fail)
  go_wp2
  go_ret2
  exact ⟨rfl, blw_drewN (Below.refl _ _) _⟩
set_option maxRecDepth 1000000 in
theorem asm_align (n : Nat) (h : n ≤ 200) (p : Option Addr) (cap : Nat) (base : Int) (hb0 : 0 ≤ base) (hb : base % 4 ≠ 0) (ad : Nat → Addr) (mz : Int) (w : World) (hP : PW w ad mz) :
    Calls Tryz.prog 16 #[.slice p n cap, .int .u32 base] w fun e w' => e = .returned (.tuple #[.slice none 0 0, errE ad 8]) ∧ Below w.heap.size w w' := by
  have c8 := hP.se.c8
  have h' : ¬ (200 : Int) < (n : Int) := by omega
  have hbt : (base.tmod 4 != 0) = true := by rw [Int.tmod_eq_emod_of_nonneg hb0]; exact bne_iff_ne.2 hb
  clear hP
  go_enter Tryz.func16, Tryz.ntmps16
  go_wp2_with fail
  go_quiet (fail)
  go_wp2
  go_ret2
  exact ⟨rfl, blw_drewN (Below.refl _ _) _⟩
theorem doc_refuse (c : Int) (w w2 : World) (hD : Duo w2 w.heap.size 55 (.int .i64 0) (.int .i64 0)) (hB : Below w.heap.size w w2) : Duo (fill2 w2 w.heap.size (.int .i64 c) (.int .i64 (-1))) w.heap.size 55 (.int .i64 c) (.int .i64 (-1)) ∧ Below w.heap.size w (fill2 w2 w.heap.size (.int .i64 c) (.int .i64 (-1))) :=
  ⟨hD.fill _ _, below_fill2 hB (Nat.le_refl _) _ _⟩
set_option maxHeartbeats 2000000 in
set_option maxRecDepth 1000000 in
theorem doc_full (n : Nat) (h : 200 < n) (p : Option Addr) (cap : Nat) (base : Int) (w : World) :
    Calls Tryz.prog 23 #[.slice p n cap, .int .u32 base] w fun e w' => e = .returned (.tuple #[.slice none 0 0, .agg #[.int .i64 8, .int .i64 (-1)]]) ∧ Below w.heap.size w w' := by
  have h' : (200 : Int) < (n : Int) := by omega
  have hal := (Below.refl w.heap.size w).alloc (Nat.le_refl _) (.cells #[.int .i64 0, .int .i64 0] 55)
  have hD : Duo (w.alloc (.cells #[.int .i64 0, .int .i64 0] 55)) w.heap.size 55 (.int .i64 0) (.int .i64 0) := heap_alloc_new w _
  go_enter Tryz.func23, Tryz.ntmps23
  go_wp2_with fail
  refine (bare_any 8 _).mono ?_
  rintro e w2 ⟨rfl, hb2⟩
  have hD2 : Duo w2 w.heap.size 55 (.int .i64 0) (.int .i64 0) := (hb2.block _ (by simp)).trans hD
  obtain ⟨HG, HB⟩ := doc_refuse 8 w w2 hD2 (hal.trans (hb2.mono hal.size))
  obtain ⟨c0, c1, g0, g1⟩ := Duo.cells hD2
  have HG := Lib.hid HG
  have HB := Lib.hid HB
  clear hal hD hb2 hD2
  go_wp2_with fail
  change bodyPost _ _ _ _ _ (fill2 w2 w.heap.size (.int .i64 8) (.int .i64 (-1)))
  clear c0 c1 g0 g1
  generalize fill2 w2 w.heap.size (.int .i64 8) (.int .i64 (-1)) = W5 at *
  obtain ⟨q0, q1, _, _⟩ := Duo.cells HG.out
  exact bodyPost_ret (v := .tuple #[.slice none 0 0, .agg #[.int .i64 8, .int .i64 (-1)]]) (by simp [results, Tryz.f23, go_sem, q0, q1]) rfl ⟨rfl, HB.out⟩
set_option maxHeartbeats 2000000 in
set_option maxRecDepth 1000000 in
theorem doc_align (n : Nat) (h : n ≤ 200) (p : Option Addr) (cap : Nat) (base : Int) (hb0 : 0 ≤ base) (hb : base % 4 ≠ 0) (w : World) :
    Calls Tryz.prog 23 #[.slice p n cap, .int .u32 base] w fun e w' => e = .returned (.tuple #[.slice none 0 0, .agg #[.int .i64 9, .int .i64 (-1)]]) ∧ Below w.heap.size w w' := by
  have h' : ¬ (200 : Int) < (n : Int) := by omega
  have hbt : (base.tmod 4 != 0) = true := by rw [Int.tmod_eq_emod_of_nonneg hb0]; exact bne_iff_ne.2 hb
  have hal := (Below.refl w.heap.size w).alloc (Nat.le_refl _) (.cells #[.int .i64 0, .int .i64 0] 55)
  have hD : Duo (w.alloc (.cells #[.int .i64 0, .int .i64 0] 55)) w.heap.size 55 (.int .i64 0) (.int .i64 0) := heap_alloc_new w _
  go_enter Tryz.func23, Tryz.ntmps23
  go_wp2_with fail
  refine (bare_any 9 _).mono ?_
  rintro e w2 ⟨rfl, hb2⟩
  have hD2 : Duo w2 w.heap.size 55 (.int .i64 0) (.int .i64 0) := (hb2.block _ (by simp)).trans hD
  obtain ⟨HG, HB⟩ := doc_refuse 9 w w2 hD2 (hal.trans (hb2.mono hal.size))
  obtain ⟨c0, c1, g0, g1⟩ := Duo.cells hD2
  have HG := Lib.hid HG
  have HB := Lib.hid HB
  clear hal hD hb2 hD2
  go_wp2_with fail
  change bodyPost _ _ _ _ _ (fill2 w2 w.heap.size (.int .i64 9) (.int .i64 (-1)))
  clear c0 c1 g0 g1
  generalize fill2 w2 w.heap.size (.int .i64 9) (.int .i64 (-1)) = W5 at *
  obtain ⟨q0, q1, _, _⟩ := Duo.cells HG.out
  exact bodyPost_ret (v := .tuple #[.slice none 0 0, .agg #[.int .i64 9, .int .i64 (-1)]]) (by simp [results, Tryz.f23, go_sem, q0, q1]) rfl ⟨rfl, HB.out⟩
theorem stepE_code {base i : Int} {st : StE} {s : List UInt8} {k : Nat} (h : stepE base i st s = .error k) : 1 ≤ k ∧ k ≤ 10 := by
  unfold stepE at h
  split at h
  · split at h
    · split at h
      · cases h; decide
      · cases h
    · cases h; decide
  · split at h
    · split at h
      · cases h
      · cases h; decide
    · split at h
      · next l y _ =>
        split at h
        · cases h
        · next h0 =>
          cases h
          rcases parse_codes l with e | e | e | e <;> omega
      · split at h
        · cases h
        · next h0 =>
          cases h
          rcases parse_codes s with e | e | e | e <;> omega
theorem goodE_code {base : Int} : ∀ (L : List (List UInt8)) (i : Int) (st : StE) (j : Int) (k : Nat), goodE base i L st = .error (j, k) → 1 ≤ k ∧ k ≤ 10
  | [], i, st, j, k, h => by cases h
  | s :: L, i, st, j, k, h => by
    unfold goodE at h
    cases hs : stepE base i st s with
    | error q =>
      rw [hs] at h
      cases h
      exact stepE_code hs
    | ok st' =>
      rw [hs] at h
      exact goodE_code L (i + 1) st' j k h
theorem settleE_code {base : Int} {ns : Labs} : ∀ (qs : Waits) (ws : List Int) (j : Int) (k : Nat), settleE base ns qs ws = .error (j, k) → 1 ≤ k ∧ k ≤ 10
  | [], ws, j, k, h => by cases h
  | q :: qs, ws, j, k, h => by
    unfold settleE at h
    split at h
    · cases h; decide
    · split at h
      · cases h; decide
      · exact settleE_code qs _ j k h
theorem runE_code {base : Int} {L : List (List UInt8)} {st : StE} {i j : Int} {k : Nat} (h : runE base i L st = .error (j, k)) : 1 ≤ k ∧ k ≤ 10 := by
  unfold runE at h
  split at h
  · next e he =>
    cases h
    exact goodE_code L i st j k he
  · exact settleE_code _ _ j k h
/-- What both answer: words, an error's number, its place. -/
def resP (L : List (List UInt8)) (base : Int) : List Int × Int × Int :=
  if 200 < L.length then ([], 8, -1) else if base % 4 ≠ 0 then ([], 9, -1) else match runE base 0 L (([], []), []) with
    | .ok r => (r, 0, -1)
    | .error (i, k) => ([], (k : Int), i)
theorem argW_nil (w : World) : ArgW w (.slice none 0 0) [] := ⟨none, 0, rfl, fun j hj => absurd hj (Nat.not_lt_zero j)⟩
theorem asm_res (L : List (List UInt8)) (hlen : ∀ s ∈ L, s.length ≤ 100) (base : Int) (hb0 : 0 ≤ base) (hb1 : base < 4294967296) (ad : Nat → Addr) (mz : Int) (w : World) (hP : PW w ad mz) (B0 : Nat) (v : Value) (hv : w.ownsRow B0 9 1 v L.length (L.map fun s => .string (bsl s))) :
    Calls Tryz.prog 16 #[v, .int .u32 base] w fun e w' => ∃ wv err, e = .returned (.tuple #[wv, err]) ∧ ArgW w' wv (resP L base).1 ∧ ErrIs w' ad err (resP L base).2.1 (resP L base).2.2 ∧ Below w.heap.size w w' ∧ (resP L base).1.length ≤ 200 := by
  by_cases h1 : 200 < L.length
  · obtain ⟨p, cap, rfl, _⟩ := ArgT.own hv
    have hr : resP L base = ([], 8, -1) := if_pos h1
    rw [hr]
    refine (asm_full L.length h1 p cap base ad mz w hP).mono ?_
    rintro e w' ⟨rfl, hb⟩
    exact ⟨_, _, rfl, argW_nil _, Or.inr (Or.inl ⟨7, by decide, rfl, rfl, rfl⟩), hb, Nat.zero_le _⟩
  · by_cases h2 : base % 4 ≠ 0
    · obtain ⟨p, cap, rfl, _⟩ := ArgT.own hv
      have hr : resP L base = ([], 9, -1) := by unfold resP; rw [if_neg h1, if_pos h2]
      rw [hr]
      refine (asm_align L.length (by omega) p cap base hb0 h2 ad mz w hP).mono ?_
      rintro e w' ⟨rfl, hb⟩
      exact ⟨_, _, rfl, argW_nil _, Or.inr (Or.inl ⟨8, by decide, rfl, rfl, rfl⟩), hb, Nat.zero_le _⟩
    · have h3 : base % 4 = 0 := by omega
      refine (assemble_any L (by omega) hlen base hb0 hb1 h3 _ rfl ad mz w hP B0 v hv).mono ?_
      rintro e w' ⟨hb, ⟨r, wv, hf, rfl, hw, hrl⟩ | ⟨i, k, b, hf, rfl, hd⟩⟩
      · have hr : resP L base = (r, 0, -1) := by unfold resP; rw [if_neg h1, if_neg h2, hf]
        rw [hr]
        exact ⟨_, _, rfl, ArgW.own hw, Or.inl ⟨rfl, rfl, rfl⟩, hb, hrl⟩
      · have hr : resP L base = ([], (k : Int), i) := by unfold resP; rw [if_neg h1, if_neg h2, hf]
        rw [hr]
        obtain ⟨k1, k2⟩ := runE_code hf
        exact ⟨_, _, rfl, argW_nil _, Or.inr (Or.inr ⟨k - 1, b, by omega, rfl, hd, by show (k : Int) = _; omega⟩), hb, Nat.zero_le _⟩
theorem doc_res (L : List (List UInt8)) (hlen : ∀ s ∈ L, s.length ≤ 100) (base : Int) (hb0 : 0 ≤ base) (hb1 : base < 4294967296) (w : World) (v : Value) (hv : ArgT w v L) :
    Calls Tryz.prog 23 #[v, .int .u32 base] w fun e w' => ∃ wv, e = .returned (.tuple #[wv, .agg #[.int .i64 (resP L base).2.1, .int .i64 (resP L base).2.2]]) ∧ ArgW w' wv (resP L base).1 ∧ Below w.heap.size w w' := by
  by_cases h1 : 200 < L.length
  · obtain ⟨p, cap, rfl, _⟩ := hv
    have hr : resP L base = ([], 8, -1) := if_pos h1
    rw [hr]
    refine (doc_full L.length h1 p cap base w).mono ?_
    rintro e w' ⟨rfl, hb⟩
    exact ⟨_, rfl, argW_nil _, hb⟩
  · by_cases h2 : base % 4 ≠ 0
    · obtain ⟨p, cap, rfl, _⟩ := hv
      have hr : resP L base = ([], 9, -1) := by unfold resP; rw [if_neg h1, if_pos h2]
      rw [hr]
      refine (doc_align L.length (by omega) p cap base hb0 h2 w).mono ?_
      rintro e w' ⟨rfl, hb⟩
      exact ⟨_, rfl, argW_nil _, hb⟩
    · have h3 : base % 4 = 0 := by omega
      refine (assembleOf_any L (by omega) hlen base hb0 hb1 h3 _ rfl w v hv).mono ?_
      rintro e w' ⟨hb, ⟨r, wv, hf, rfl, hw⟩ | ⟨i, k, hf, rfl⟩⟩
      · have hr : resP L base = (r, 0, -1) := by unfold resP; rw [if_neg h1, if_neg h2, hf]
        rw [hr]
        exact ⟨_, rfl, hw, hb⟩
      · have hr : resP L base = ([], (k : Int), i) := by unfold resP; rw [if_neg h1, if_neg h2, hf]
        rw [hr]
        exact ⟨_, rfl, argW_nil _, hb⟩
set_option maxHeartbeats 2000000 in
set_option maxRecDepth 1000000 in
theorem programs_any (L : List (List UInt8)) (v : Value) (base : Int) (hb0 : 0 ≤ base) (hb1 : base < 4294967296) (ad : Nat → Addr) (mz : Int) (w : World) (hP : PW w ad mz) (hS : Sents w ad) (hv : ArgS w v L) :
    Calls Tryz.prog 6 #[v, .int .u32 base] w fun e w' => e = .returned (.bool true) ∧ Below w.heap.size w w' := by
  have HP := Lib.hid hP
  have HS := Lib.hid hS
  have HV := Lib.hid hv
  have HT := Lib.hid (texted_ok ad w ⟨hP.se.c1, hP.se.c3⟩ hP.pow)
  have HB01 := Lib.hid (And.intro hb0 hb1)
  clear hP hS hv
  go_enter Tryz.func6, Tryz.ntmps6
  go_wp2_with fail
  refine HT.out.mono ?_
  rintro e w1 ⟨rfl, hb1'⟩
  have HB1 := Lib.hid hb1'
  have HV1 := Lib.hid (HV.out.below hb1')
  clear hb1' HT
  go_wp2_with fail
  refine (long_any L v w1 HV1.out.argT).mono ?_
  rintro e w2 ⟨⟨rfl, hl, hs⟩ | rfl, hb2⟩
  · have HB2 := Lib.hid (HB1.out.trans (hb2.mono HB1.out.size))
    have HV2 := Lib.hid (HV1.out.below hb2)
    have HLS := Lib.hid (And.intro hl hs)
    clear hb2 hl hs
    go_wp2_with fail
    refine (own_any L (by have := HLS.out.1; omega) v w2 HV2.out).mono ?_
    rintro e w3 ⟨v', rfl, hown, hb3⟩
    have HB3 := Lib.hid (HB2.out.trans (hb3.mono HB2.out.size))
    have HV3 := Lib.hid (HV2.out.below hb3)
    have HO3 := Lib.hid hown
    clear hb3 hown
    go_wp2_with fail
    refine (asm_res L (fun s hs => by have := HLS.out.2 s hs; omega) base HB01.out.1 HB01.out.2 ad mz w3 (HP.out.below HB3.out) _ v' HO3.out).mono ?_
    rintro e w4 ⟨wv, err, rfl, hw4, he4, hb4, hrl⟩
    have HB4 := Lib.hid (HB3.out.trans (hb4.mono HB3.out.size))
    have HV4 := Lib.hid (HV3.out.below hb4)
    have HW4 := Lib.hid hw4
    have HE4 := Lib.hid he4
    have HRL := Lib.hid hrl
    clear hb4 hw4 he4 hrl
    go_wp2_with fail
    refine (doc_res L (fun s hs => by have := HLS.out.2 s hs; omega) base HB01.out.1 HB01.out.2 w4 v HV4.out.argT).mono ?_
    rintro e w5 ⟨dv, rfl, hw5, hb5⟩
    have HB5 := Lib.hid (HB4.out.trans (hb5.mono HB4.out.size))
    have HW5 := Lib.hid (HW4.out.below hb5)
    have HE5 := Lib.hid (HE4.out.below hb5)
    have HD5 := Lib.hid hw5
    clear hb5 hw5 HW4 HE4
    generalize (resP L base).1 = zs at *
    generalize (resP L base).2.1 = rc at *
    generalize (resP L base).2.2 = rt at *
    have hal := (Below.refl w5.heap.size w5).alloc (Nat.le_refl _) (.cells #[.int .i64 rc, .int .i64 rt] 55)
    have HB6 := Lib.hid (HB5.out.trans (hal.mono HB5.out.size))
    have HW6 := Lib.hid (HW5.out.below hal)
    have HD6 := Lib.hid (HD5.out.below hal)
    have HFA := Lib.hid (faulted_ok (HE5.out.below hal) (HS.out.below HB6.out))
    clear hal
    go_wp2_with fail
    refine HFA.out.mono ?_
    rintro e w7 ⟨rfl, hb7⟩
    have HB7 := Lib.hid (HB6.out.trans (hb7.mono HB6.out.size))
    have HW7 := Lib.hid (HW6.out.below hb7)
    have HD7 := Lib.hid (HD6.out.below hb7)
    clear hb7
    go_wp2_with fail
    refine (alike_same zs (by have := HRL.out; omega) wv dv w7 HW7.out HD7.out).mono ?_
    rintro e w8 ⟨rfl, nk, rfl⟩
    go_wp2_with fail
    go_ret
    exact ⟨rfl, blw_drewN HB7.out nk⟩
  · have HB2 := Lib.hid (HB1.out.trans (hb2.mono HB1.out.size))
    clear hb2
    go_wp2_with fail
    go_ret
    exact ⟨rfl, HB2.out⟩
end Go.Proofs.YtnppegldebocmaaGreatDoor
