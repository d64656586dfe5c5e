/- The plain law of reading: what asm.Parse computes, what the document's ParseOf computes, and that they are one. No program in sight. Conditions: as each theorem states. -/
import Derived.Test.YtnppegldebocmaaGreatDoorApartP
import Derived.Lib.AtoiAllCases
import Derived.Lib.Split
import Derived.Lib.Strings
namespace Go.Proofs.YtnppegldebocmaaGreatDoor
open Go.RowKit
set_option linter.unusedVariables false
/-! ### Cuts -/
def cutC (c : UInt8) : List UInt8 → List UInt8 × List UInt8 × Bool
  | [] => ([], [], false)
  | x :: t => if x = c then ([], t, true) else (x :: (cutC c t).1, (cutC c t).2.1, (cutC c t).2.2)
theorem pre_one (c x : UInt8) (t : List UInt8) : [c].isPrefixOf (x :: t) = (c == x) := by simp [List.isPrefixOf]
theorem cut_C (c : UInt8) : ∀ s : List UInt8, Lib.cut s [c] = cutC c s
  | [] => by simp [Lib.cut, Lib.index, cutC]
  | x :: t => by
    have ih := cut_C c t
    have hge := Lib.index_ge t [c]
    unfold cutC
    by_cases h : x = c
    · subst h
      simp [Lib.cut, Lib.index, List.isPrefixOf]
    · have hne : ([c].isPrefixOf (x :: t)) = false := by rw [pre_one]; exact beq_eq_false_iff_ne.2 (fun e => h e.symm)
      rw [if_neg h, ← ih]
      have e : Lib.index (x :: t) [c] = if Lib.index t [c] == -1 then -1 else Lib.index t [c] + 1 := by
        rw [Lib.index, hne]; simp
      unfold Lib.cut
      rw [e]
      by_cases hm : Lib.index t [c] = -1
      · simp [hm]
      · have h0 : 0 ≤ Lib.index t [c] := by omega
        have hb : (Lib.index t [c] == -1) = false := beq_eq_false_iff_ne.2 hm
        simp only [hb, Bool.false_eq_true, if_false]
        rw [if_pos (by omega), if_pos h0]
        have e2 : (Lib.index t [c] + 1).toNat = (Lib.index t [c]).toNat + 1 := by omega
        rw [e2]
        simp
def split2 : List UInt8 → List (List UInt8)
  | [] => [[]]
  | x :: t => if x = 44 ∧ t.head? = some 32 then [] :: split2 (t.drop 1) else
    match split2 t with
    | p :: ps => (x :: p) :: ps
    | [] => [[x]]
termination_by s => s.length
decreasing_by all_goals simp <;> omega
theorem split2_ne : ∀ s, split2 s ≠ [] := by
  intro s
  cases s with
  | nil => simp [split2]
  | cons x t =>
    unfold split2
    split
    · simp
    · split <;> simp
/-- The first piece: up to the first separator, or all. -/
theorem split2_first : ∀ (n : Nat) (s : List UInt8), s.length ≤ n → (∃ p, split2 s = [p] ∧ s = p ∧ Lib.index s [44, 32] = -1) ∨ (∃ p r, split2 s = p :: split2 r ∧ s = p ++ 44 :: 32 :: r ∧ Lib.index s [44, 32] = (p.length : Int))
  | n, [], _ => Or.inl ⟨[], by simp [split2], rfl, by simp [Lib.index]⟩
  | 0, x :: t, h => absurd h (by simp)
  | n + 1, x :: t, h => by
    by_cases hx : x = 44 ∧ t.head? = some 32
    · obtain ⟨rfl, ht⟩ := hx
      obtain ⟨t', rfl⟩ : ∃ t', t = 32 :: t' := by
        cases t with
        | nil => simp at ht
        | cons y t' => simp at ht; exact ⟨t', by rw [ht]⟩
      refine Or.inr ⟨[], t', ?_, rfl, ?_⟩
      · rw [split2, if_pos ⟨rfl, rfl⟩]; simp
      · rw [Lib.index]; simp [List.isPrefixOf]
    · have hne : ([44, 32] : List UInt8).isPrefixOf (x :: t) = false := by
        cases t with
        | nil => simp [List.isPrefixOf]
        | cons y t' =>
          simp only [List.isPrefixOf, Bool.and_true, Bool.and_eq_false_iff, beq_eq_false_iff_ne]
          by_cases e : x = 44
          · exact Or.inr fun e2 => hx ⟨e, by simp [e2]⟩
          · exact Or.inl fun e2 => e e2.symm
      have e : Lib.index (x :: t) [44, 32] = if Lib.index t [44, 32] == -1 then -1 else Lib.index t [44, 32] + 1 := by
        rw [Lib.index, hne]; simp
      rcases split2_first n t (by simp at h; omega) with ⟨p, h1, h2, h3⟩ | ⟨p, r, h1, h2, h3⟩
      · refine Or.inl ⟨x :: p, ?_, by rw [h2], by rw [e, h3]; simp⟩
        rw [split2, if_neg hx, h1]
      · refine Or.inr ⟨x :: p, r, ?_, by rw [h2]; rfl, ?_⟩
        · rw [split2, if_neg hx, h1]
        · have hb : (Lib.index t [44, 32] == -1) = false := beq_eq_false_iff_ne.2 (by omega)
          rw [e, hb, if_neg (by decide), h3]
          simp
theorem split_K : ∀ (n k : Nat) (s : List UInt8), s.length ≤ n → (split2 s).length ≤ k + 1 → Lib.splitK [44, 32] 0 k s = split2 s
  | n, 0, s, hn, hk => by
    rcases split2_first s.length s (Nat.le_refl _) with ⟨p, h1, h2, h3⟩ | ⟨p, r, h1, h2, h3⟩
    · rw [h1, h2]; rfl
    · rw [h1] at hk
      have := split2_ne r
      cases hr : split2 r with
      | nil => exact absurd hr this
      | cons a b => rw [hr] at hk; simp at hk
  | n, k + 1, s, hn, hk => by
    rcases split2_first s.length s (Nat.le_refl _) with ⟨p, h1, h2, h3⟩ | ⟨p, r, h1, h2, h3⟩
    · unfold Lib.splitK
      rw [h3, h1, ← h2]; rfl
    · have hb : (Lib.index s [44, 32] == -1) = false := beq_eq_false_iff_ne.2 (by omega)
      unfold Lib.splitK
      rw [hb, if_neg (by decide), h1, h3]
      have e1 : (s.take ((p.length : Int).toNat + 0)) = p := by rw [h2]; simp
      have e2 : (s.drop ((p.length : Int).toNat + ([44, 32] : List UInt8).length)) = r := by
        rw [h2]
        have : p ++ 44 :: 32 :: r = (p ++ [44, 32]) ++ r := by simp
        rw [this, List.drop_left' (by simp)]
      rw [e1, e2]
      match n, hn with
      | 0, hn => rw [h2] at hn; simp at hn
      | n + 1, hn => rw [split_K n k r (by rw [h2] at hn; simp at hn; omega) (by rw [h1] at hk; simp at hk; omega)]
theorem count_K : ∀ (n : Nat) (s : List UInt8), s.length ≤ n → ∀ f, s.length < f → Lib.countFrom [44, 32] f s + 1 = (split2 s).length
  | n, s, hn, 0, hf => absurd hf (Nat.not_lt_zero _)
  | n, s, hn, f + 1, hf => by
    rcases split2_first s.length s (Nat.le_refl _) with ⟨p, h1, h2, h3⟩ | ⟨p, r, h1, h2, h3⟩
    · unfold Lib.countFrom
      rw [h3, h1]; simp
    · have hb : (Lib.index s [44, 32] == -1) = false := beq_eq_false_iff_ne.2 (by omega)
      unfold Lib.countFrom
      rw [hb, if_neg (by decide), h1, h3]
      have e2 : (s.drop ((p.length : Int).toNat + ([44, 32] : List UInt8).length)) = r := by
        rw [h2]
        have : p ++ 44 :: 32 :: r = (p ++ [44, 32]) ++ r := by simp
        rw [this, List.drop_left' (by simp)]
      rw [e2]
      match n, hn with
      | 0, hn => rw [h2] at hn; simp at hn
      | n + 1, hn =>
        have := count_K n r (by rw [h2] at hn; simp at hn; omega) f (by rw [h2] at hf; simp at hf; omega)
        simp only [List.length_cons]
        omega
theorem split_2 (s : List UInt8) : Lib.split s [44, 32] = split2 s ∧ Lib.count s [44, 32] + 1 = (split2 s).length := by
  have h := count_K s.length s (Nat.le_refl _) (s.length + 1) (by omega)
  exact ⟨split_K s.length _ s (Nat.le_refl _) (by unfold Lib.count; omega), h⟩
end Go.Proofs.YtnppegldebocmaaGreatDoor
