/- Regions, plainly: how far a region goes, and what stands of it. No condition. -/
import Derived.Test.YtnppegldebocmaaDoorReg
namespace Go.Proofs.YtnppegldebocmaaDoor
open Go.RowKit
set_option linter.unusedVariables false
def branchL : List UInt8 := [98, 114, 97, 110, 99, 104]
def trapL : List UInt8 := [116, 114, 97, 112]
def stI (i : InsN) : Int := if kindOfB i.op = storeL then 1 else 0
/-- The slot's instruction. -/
def slotI (W : Nat → Int) (n : Nat) : InsN := if n < 4096 then decZ (W n) else decZ 0
def slots (W : Nat → Int) (k0 m : Nat) : List InsN := (List.range m).map fun j => slotI W (k0 + j)
theorem slots_len (W : Nat → Int) (k0 m : Nat) : (slots W k0 m).length = m := by simp [slots]
theorem slots_succ (W : Nat → Int) (k0 m : Nat) : slots W k0 (m + 1) = slots W k0 m ++ [slotI W (k0 + m)] := by simp [slots, List.range_succ]
def stN (W : Nat → Int) (k0 : Nat) : Nat → Int
  | 0 => 0
  | m + 1 => stN W k0 m + stI (slotI W (k0 + m))
/-- May a branch and its slot be taken? -/
def fitsB (bx : Bool) (most : Int) (n : Nat) (st : Int) (x : InsN) : Bool :=
  bx && decide ((n : Int) + 2 ≤ most) && decide (kindOfB x.op ≠ branchL) && decide (kindOfB x.op ≠ trapL) && !(decide (kindOfB x.op = storeL) && decide (8 ≤ st))
/-- May an instruction be taken as it stands? -/
def goodS (bx : Bool) (st : Int) (x : InsN) : Bool :=
  bx && decide (kindOfB x.op ≠ trapL) && !(decide (kindOfB x.op = storeL) && decide (8 ≤ st))
def endN (W : Nat → Int) (k0 : Nat) (most : Int) : Nat → Nat → Nat
  | 0, m => m
  | f + 1, m =>
    if (m : Int) < most ∧ goodS (decide (k0 + m < 4096)) (stN W k0 m) (slotI W (k0 + m)) = true then
      if kindOfB (slotI W (k0 + m)).op = branchL then
        if fitsB (decide (k0 + m + 1 < 4096)) most m (stN W k0 m) (slotI W (k0 + m + 1)) = true then m + 2 else m
      else endN W k0 most f (m + 1)
    else m
theorem stI_range (i : InsN) : 0 ≤ stI i ∧ stI i ≤ 1 := by unfold stI; split <;> omega
theorem stI_branch (i : InsN) (h : kindOfB i.op = branchL) : stI i = 0 := by unfold stI; rw [if_neg (by rw [h]; decide)]
theorem stN_range (W : Nat → Int) (k0 m : Nat) : 0 ≤ stN W k0 m ∧ stN W k0 m ≤ m := by
  induction m with
  | zero => simp [stN]
  | succ m ih => have := stI_range (slotI W (k0 + m)); simp only [stN]; omega
theorem endN_ge (W : Nat → Int) (k0 : Nat) (most : Int) : ∀ (f m : Nat), m ≤ endN W k0 most f m
  | 0, m => Nat.le_refl _
  | f + 1, m => by
    unfold endN
    split
    · split
      · split <;> omega
      · exact Nat.le_trans (Nat.le_succ m) (endN_ge W k0 most f (m + 1))
    · exact Nat.le_refl _
theorem endN_more (W : Nat → Int) (k0 : Nat) (most : Int) : ∀ (f m : Nat), endN W k0 most f m ≤ endN W k0 (most + 1) f m
  | 0, m => Nat.le_refl _
  | f + 1, m => by
    by_cases h : (m : Int) < most ∧ goodS (decide (k0 + m < 4096)) (stN W k0 m) (slotI W (k0 + m)) = true
    · have h' : (m : Int) < most + 1 ∧ goodS (decide (k0 + m < 4096)) (stN W k0 m) (slotI W (k0 + m)) = true := ⟨by omega, h.2⟩
      unfold endN
      rw [if_pos h, if_pos h']
      split
      · split
        · rename_i hf
          have : fitsB (decide (k0 + m + 1 < 4096)) (most + 1) m (stN W k0 m) (slotI W (k0 + m + 1)) = true := by
            simp only [fitsB, Bool.and_eq_true, decide_eq_true_eq] at hf ⊢
            exact ⟨⟨⟨⟨hf.1.1.1.1, by omega⟩, hf.1.1.2⟩, hf.1.2⟩, hf.2⟩
          rw [if_pos this]
          exact Nat.le_refl _
        · split <;> omega
      · exact endN_more W k0 most f (m + 1)
    · have e : endN W k0 most (f + 1) m = m := by unfold endN; rw [if_neg h]
      rw [e]
      exact endN_ge ..
/-- What stands of the first m slots. -/
structure Stands (W : Nat → Int) (k0 m : Nat) : Prop where
  slot : ∀ j, j < m → k0 + j < 4096 ∧ kindOfB (slotI W (k0 + j)).op ≠ trapL
  sto : stN W k0 m ≤ 8
theorem Stands.zero (W : Nat → Int) (k0 : Nat) : Stands W k0 0 := ⟨fun j h => absurd h (Nat.not_lt_zero j), by simp [stN]⟩
theorem Stands.one {W : Nat → Int} {k0 m : Nat} (h : Stands W k0 m) (h1 : k0 + m < 4096) (h2 : kindOfB (slotI W (k0 + m)).op ≠ trapL) (h3 : ¬ (kindOfB (slotI W (k0 + m)).op = storeL ∧ 8 ≤ stN W k0 m)) : Stands W k0 (m + 1) := by
  refine ⟨fun j hj => ?_, ?_⟩
  · by_cases e : j < m
    · exact h.slot j e
    · obtain rfl : j = m := by omega
      exact ⟨h1, h2⟩
  · have := h.sto
    simp only [stN, stI]
    split
    · rename_i hk
      have : ¬ 8 ≤ stN W k0 m := fun h8 => h3 ⟨hk, h8⟩
      omega
    · omega
theorem goodS_parts {bx : Bool} {st : Int} {x : InsN} (h : goodS bx st x = true) : bx = true ∧ kindOfB x.op ≠ trapL ∧ ¬ (kindOfB x.op = storeL ∧ 8 ≤ st) := by
  simp only [goodS, Bool.and_eq_true, Bool.not_eq_true', Bool.and_eq_false_iff, decide_eq_true_eq, decide_eq_false_iff_not] at h
  exact ⟨h.1.1, h.1.2, fun g => h.2.elim (fun e => e g.1) (fun e => e g.2)⟩
theorem fits_parts {bx : Bool} {most : Int} {n : Nat} {st : Int} {x : InsN} (h : fitsB bx most n st x = true) : bx = true ∧ (n : Int) + 2 ≤ most ∧ kindOfB x.op ≠ branchL ∧ kindOfB x.op ≠ trapL ∧ ¬ (kindOfB x.op = storeL ∧ 8 ≤ st) := by
  simp only [fitsB, Bool.and_eq_true, Bool.not_eq_true', Bool.and_eq_false_iff, decide_eq_true_eq, decide_eq_false_iff_not] at h
  exact ⟨h.1.1.1.1, h.1.1.1.2, h.1.1.2, h.1.2, fun g => h.2.elim (fun e => e g.1) (fun e => e g.2)⟩
theorem endN_stands (W : Nat → Int) (k0 : Nat) (most : Int) : ∀ (f m : Nat), (m : Int) ≤ most → Stands W k0 m → (∀ j, j < m → kindOfB (slotI W (k0 + j)).op ≠ branchL) →
    Stands W k0 (endN W k0 most f m) ∧ (endN W k0 most f m : Int) ≤ most ∧ ∀ j, j < endN W k0 most f m → kindOfB (slotI W (k0 + j)).op = branchL → j + 2 = endN W k0 most f m
  | 0, m, hm, hS, hN => ⟨hS, hm, fun j hj hb => absurd hb (hN j hj)⟩
  | f + 1, m, hm, hS, hN => by
    by_cases h : (m : Int) < most ∧ goodS (decide (k0 + m < 4096)) (stN W k0 m) (slotI W (k0 + m)) = true
    · obtain ⟨hl, hg⟩ := h
      obtain ⟨g1, g2, g3⟩ := goodS_parts hg
      have g1 := of_decide_eq_true g1
      have hS1 := hS.one g1 g2 g3
      by_cases hb : kindOfB (slotI W (k0 + m)).op = branchL
      · by_cases hf : fitsB (decide (k0 + m + 1 < 4096)) most m (stN W k0 m) (slotI W (k0 + m + 1)) = true
        · have e : endN W k0 most (f + 1) m = m + 2 := by unfold endN; rw [if_pos ⟨hl, hg⟩, if_pos hb, if_pos hf]
          rw [e]
          obtain ⟨f1, f2, f3, f4, f5⟩ := fits_parts hf
          have f1 := of_decide_eq_true f1
          have e0 : stN W k0 (m + 1) = stN W k0 m := by simp only [stN, stI_branch _ hb]; omega
          have hS2 : Stands W k0 (m + 2) := hS1.one (by omega) (by rw [← Nat.add_assoc]; exact f4) (by rw [← Nat.add_assoc, e0]; exact f5)
          refine ⟨hS2, by omega, fun j hj hbj => ?_⟩
          by_cases e1 : j < m
          · exact absurd hbj (hN j e1)
          · by_cases e2 : j = m
            · omega
            · obtain rfl : j = m + 1 := by omega
              rw [← Nat.add_assoc] at hbj
              exact absurd hbj f3
        · have e : endN W k0 most (f + 1) m = m := by unfold endN; rw [if_pos ⟨hl, hg⟩, if_pos hb, if_neg hf]
          rw [e]
          exact ⟨hS, hm, fun j hj hbj => absurd hbj (hN j hj)⟩
      · have e : endN W k0 most (f + 1) m = endN W k0 most f (m + 1) := by
          rw [endN, if_pos ⟨hl, hg⟩, if_neg hb]
        rw [e]
        refine endN_stands W k0 most f (m + 1) (by omega) hS1 fun j hj => ?_
        by_cases e1 : j < m
        · exact hN j e1
        · obtain rfl : j = m := by omega
          exact hb
    · have e : endN W k0 most (f + 1) m = m := by rw [endN, if_neg h]
      rw [e]
      exact ⟨hS, hm, fun j hj hbj => absurd hbj (hN j hj)⟩
end Go.Proofs.YtnppegldebocmaaDoor
