/- The walks of changelinglaw1.coded; plain facts for CodeBack. Conditions: as each theorem states. -/
import Derived.Test.YtnppegldebocmaaGreatDoorIs
import Derived.Test.YtnppegldebocmaaGreatDoorRound2
import Derived.Test.YtnppegldebocmaaGreatDoorEncode
import Derived.Test.YtnppegldebocmaaGreatDoorWordR
namespace Go.Proofs.YtnppegldebocmaaGreatDoor
open Go.RowKit
theorem coded_yes (k : Nat) (hk : k < 10) (z : Int) (hz : z = (k : Int) + 1) (ad : Nat → Addr) (w : World) (hS : Sents w ad) :
    Calls Tryz.prog 10 #[.iface 214 (.pointer (some (ad k))), .int .i64 z] w fun ev w' => ev = .returned (.bool true) ∧ Below w.heap.size w w' := by
  subst hz
  go_enter Tryz.func10, Tryz.ntmps10
  go_wp2_with fail
  refine (code_sent k hk ad _ hS).mono ?_
  rintro e w1 ⟨rfl, hb1⟩
  clear hS
  go_wp2
  go_ret
  exact ⟨rfl, hb1⟩
theorem coded_nil (w : World) :
    Calls Tryz.prog 10 #[.nilIface, .int .i64 0] w fun ev w' => ev = .returned (.bool true) ∧ w = w' := by
  go_enter Tryz.func10, Tryz.ntmps10
  go_wp2_with fail
  refine (code_nil _).mono ?_
  rintro e w1 ⟨rfl, rfl⟩
  go_wp2
  go_ret
  exact ⟨rfl, rfl⟩
theorem name_full (k : Nat) (h1 : 1 ≤ k) (h2 : k < 54) : (nameS (k : Int)).toList.isEmpty = false := by
  have all : ∀ k : Nat, k < 54 → (1 ≤ k → (nameS (k : Int)).toList.isEmpty = false) := by decide +kernel
  exact all k h2 h1
theorem name_none (n : Int) (h : n ≤ 0 ∨ 54 ≤ n) : (nameS n).toList.isEmpty = true := by
  have e : nameS n = ⟨#[]⟩ := by
    unfold nameS
    rcases h with h | h
    · rw [show n.toNat = 0 from by omega]; rfl
    · rw [nameB_big _ (by omega)]; rfl
  rw [e]
  decide +kernel
/-- What is read out of a word has a word. -/
theorem dec_good (x : Nat) (k : Nat) : encBad (decAt (x : Int) (k : Int)) = false := by
  have hop := decAt_op (x : Int) (k : Int)
  have h0 : decAt (x : Int) (k : Int) = putL (x : Int) (k : Int) (fieldsB k) := rfl
  unfold encBad
  rw [hop]
  simp only [Int.toNat_natCast]
  have hbad : ∀ c, bad2 (decAt (x : Int) (k : Int)) c = (!((fieldsB k).contains c) && valF (decAt (x : Int) (k : Int)) c != 0) := by
    intro c
    unfold bad2
    rw [hop]
    simp
  rw [h0] at *
  simp only [List.any_cons, List.any_nil, hbad]
  rcases fields_cases k with e | e | e | e | e | e | e | e | e | e | e | e
  all_goals
    rw [e]
    simp [putL, putF, okF, valF, mostF]
    try omega
theorem decZ_fits (x : Int) : (decZ x).Fits := by
  rcases decZ_cases x with e | ⟨k, a, b, c, d⟩
  · rw [e]
    constructor <;> simp
  · rw [d]
    have h0 : decAt x (k : Int) = putL x (k : Int) (fieldsB k) := rfl
    rw [h0]
    rcases fields_cases k with e | e | e | e | e | e | e | e | e | e | e | e
    all_goals
      rw [e]
      constructor <;> simp [putL, putF] <;> omega
end Go.Proofs.YtnppegldebocmaaGreatDoor
