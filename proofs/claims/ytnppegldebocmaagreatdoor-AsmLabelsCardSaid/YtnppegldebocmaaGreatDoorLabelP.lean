/- What asm.labelled takes for a branch to a label. No program in sight. Conditions: as each theorem states. -/
import Derived.Test.YtnppegldebocmaaGreatDoorTextsN
import Derived.Test.YtnppegldebocmaaGreatDoorTrim
namespace Go.Proofs.YtnppegldebocmaaGreatDoor
open Go.RowKit
set_option linter.unusedVariables false
def isBr (k : Nat) : Bool := decide (kindOfB (k : Int) = [98, 114, 97, 110, 99, 104]) && (decide (k ≠ 7) && decide (k ≠ 8))
def labelledB (s : List UInt8) : Option (List UInt8 × List UInt8) := match (piecesB s).getLast? with
  | none => none
  | some x => if (isBr (nameN (cutC 32 s).1) && labelB x) = true then some ((cutC 32 s).1 ++ (32 :: Lib.join ((piecesB s).dropLast ++ [[48]]) [44, 32]), x) else none
theorem labelledB_nil {s : List UInt8} (h : piecesB s = []) : labelledB s = none := by unfold labelledB; rw [h]; rfl
theorem labelledB_snoc {s : List UInt8} {xs : List (List UInt8)} {x : List UInt8} (h : piecesB s = xs ++ [x]) :
    labelledB s = if (isBr (nameN (cutC 32 s).1) && labelB x) = true then some ((cutC 32 s).1 ++ (32 :: Lib.join (xs ++ [[48]]) [44, 32]), x) else none := by
  unfold labelledB
  rw [h, List.getLast?_concat]
  simp only [List.dropLast_concat]
theorem snoc_of {α : Type} (L : List α) : L = [] ∨ ∃ xs x, L = xs ++ [x] := by
  by_cases h : L = []
  · exact Or.inl h
  · exact Or.inr ⟨L.dropLast, L.getLast h, (List.dropLast_concat_getLast h).symm⟩
theorem joinTail_snoc (sep : List UInt8) (r : List (List UInt8)) (x : List UInt8) : Lib.joinTail sep (r ++ [x]) = Lib.joinTail sep r ++ (sep ++ x) := by simp [Lib.joinTail]
theorem join_snoc_len (xs : List (List UInt8)) (x y : List UInt8) (h : y.length ≤ x.length) : (Lib.join (xs ++ [y]) [44, 32]).length ≤ (Lib.join (xs ++ [x]) [44, 32]).length := by
  cases xs with
  | nil => simpa [Lib.join_one] using h
  | cons a r =>
    rw [List.cons_append, List.cons_append, Lib.join_cons, Lib.join_cons, joinTail_snoc, joinTail_snoc]
    simp
    omega
theorem joinTail_ge (r : List (List UInt8)) : 2 * r.length ≤ (Lib.joinTail [44, 32] r).length := by
  induction r with
  | nil => simp [Lib.joinTail]
  | cons a r ih =>
    have : Lib.joinTail [44, 32] (a :: r) = [44, 32] ++ a ++ Lib.joinTail [44, 32] r := by simp [Lib.joinTail]
    rw [this]
    simp
    omega
theorem join_ge (L : List (List UInt8)) : 2 * L.length ≤ (Lib.join L [44, 32]).length + 2 := by
  cases L with
  | nil => simp [Lib.join_nil]
  | cons a r =>
    rw [Lib.join_cons]
    have := joinTail_ge r
    simp
    omega
theorem cutC_eq (c : UInt8) : ∀ s : List UInt8, s = (cutC c s).1 ++ (if (cutC c s).2.2 = true then c :: (cutC c s).2.1 else [])
  | [] => rfl
  | x :: t => by
    by_cases h : x = c
    · simp [cutC, h]
    · have ih := cutC_eq c t
      simp only [cutC, if_neg h, List.cons_append]
      rw [← ih]
theorem pieces_join (s : List UInt8) (h : piecesB s ≠ []) : s = (cutC 32 s).1 ++ (32 :: Lib.join (piecesB s) [44, 32]) := by
  have he := cutC_eq 32 s
  unfold piecesB at h ⊢
  by_cases hb : (cutC 32 s).2.2 = true
  · rw [if_pos hb] at he ⊢
    rw [join_split2 _ _ (Nat.le_refl _)]
    exact he
  · rw [if_neg hb] at h
    exact absurd rfl h
theorem pieces_many (s : List UInt8) : (piecesB s).length ≤ s.length + 1 := by
  by_cases h : piecesB s = []
  · rw [h]; simp
  · have e := congrArg List.length (pieces_join s h)
    have := join_ge (piecesB s)
    simp at e
    omega
theorem label_ne {x : List UInt8} (h : labelB x = true) : 1 ≤ x.length := by
  cases x with
  | nil => cases h
  | cons a r => simp
theorem line_short (s : List UInt8) (xs : List (List UInt8)) (x : List UInt8) (h : piecesB s = xs ++ [x]) (hx : 1 ≤ x.length) :
    ((cutC 32 s).1 ++ (32 :: Lib.join (xs ++ [[48]]) [44, 32])).length ≤ s.length := by
  have e := congrArg List.length (pieces_join s (by rw [h]; simp))
  rw [h] at e
  have := join_snoc_len xs x [48] hx
  simp at e ⊢
  omega
theorem mem_joinTail_len (r : List (List UInt8)) (p : List UInt8) (h : p ∈ r) : p.length ≤ (Lib.joinTail [44, 32] r).length := by
  induction r with
  | nil => cases h
  | cons a r ih =>
    have e : Lib.joinTail [44, 32] (a :: r) = [44, 32] ++ a ++ Lib.joinTail [44, 32] r := by simp [Lib.joinTail]
    rw [e]
    rcases List.mem_cons.1 h with rfl | h
    · simp; omega
    · have := ih h
      simp; omega
theorem mem_join_len (L : List (List UInt8)) (p : List UInt8) (h : p ∈ L) : p.length ≤ (Lib.join L [44, 32]).length := by
  cases L with
  | nil => cases h
  | cons a r =>
    rw [Lib.join_cons]
    rcases List.mem_cons.1 h with rfl | h
    · simp
    · have := mem_joinTail_len r p h
      simp; omega
theorem pieces_len2 (s : List UInt8) (p : List UInt8) (hp : p ∈ piecesB s) : p.length ≤ s.length := by
  have e := congrArg List.length (pieces_join s (List.ne_nil_of_mem hp))
  have : p.length ≤ (Lib.join (piecesB s) [44, 32]).length := mem_join_len _ _ hp
  simp at e
  omega
theorem labelled_len {s l x : List UInt8} (h : labelledB s = some (l, x)) : l.length ≤ s.length ∧ x.length ≤ s.length ∧ labelB x = true := by
  rcases snoc_of (piecesB s) with h0 | ⟨xs, y, hL⟩
  · rw [labelledB_nil h0] at h; cases h
  · rw [labelledB_snoc hL] at h
    split at h
    · next hc =>
      cases h
      rw [Bool.and_eq_true] at hc
      exact ⟨line_short s xs x hL (label_ne hc.2), pieces_len2 s x (by rw [hL]; simp), hc.2⟩
    · cases h
end Go.Proofs.YtnppegldebocmaaGreatDoor
