/- The walks of the document's IsOf, fieldWell. Conditions: as each theorem states. -/
import Derived.Test.YtnppegldebocmaaGreatDoorNext
import Derived.Test.YtnppegldebocmaaGreatDoorRows
import Derived.Handy
import Derived.Lib.Hide
namespace Go.Proofs.YtnppegldebocmaaGreatDoor
open Go.RowKit
theorem bsl_at (l : List UInt8) (i : Nat) (h : i < l.length) : (bsl l)[i]'(by rw [bsl_size]; exact h) = l[i] := bsl_get l i _
theorem eq_yes (l : List UInt8) (i : Nat) (h : i < (bsl l).size) (h' : i < l.length) (c : UInt8) (e : l[i] = c) : ((((bsl l)[i]'h).toNat : Int) == (c.toNat : Int)) = true := by
  rw [bsl_get, e]
  simp
theorem eq_no (l : List UInt8) (i : Nat) (h : i < (bsl l).size) (h' : i < l.length) (c : UInt8) (e : ¬ l[i] = c) : ((((bsl l)[i]'h).toNat : Int) == (c.toNat : Int)) = false := by
  rw [bsl_get, beq_eq_false_iff_ne]
  intro hh
  exact e (UInt8.toNat_inj.1 (by omega))
set_option maxHeartbeats 400000 in
theorem isOf_walk (l : List UInt8) (hl : l.length ≤ 100) (c : UInt8) (b : Bool) (hb : Hid (l.contains c = b)) (w : World) :
    Calls Tryz.prog 32 #[.string (bsl l), .int .u8 (c.toNat : Int)] w fun e w' => e = .returned (.bool b) ∧ w = w' := by
  have hsz := bsl_size l
  go_enter Tryz.func32, Tryz.ntmps32
  go_wp2
  go_loop [5] (fun v => ∃ i : Nat, i ≤ l.length ∧ v = .int .i64 (i : Int) ∧ Hid (∀ j : Nat, ∀ h : j < l.length, j < i → l[j] ≠ c)) (fun v => l.length - (intOf v).toNat)
  case atStart => exact ⟨0, Nat.zero_le _, rfl, fun j h hj => by omega⟩
  case round =>
    obtain ⟨i, hi, rfl, HN⟩ := hrel
    by_cases hlt : i < l.length
    · have hlt' : i < (bsl l).size := by omega
      by_cases he : l[i] = c
      · have h1 := eq_yes l i hlt' hlt c he
        have hbt : b = true := by
          rw [← hb.out]
          exact List.elem_eq_true_of_mem (he ▸ List.getElem_mem hlt)
        subst hbt
        clear he
        go_wp2
        go_ret
        exact ⟨rfl, rfl⟩
      · have h1 := eq_no l i hlt' hlt c he
        have HE := Lib.hid he
        clear he
        go_wp2
        go_round
        case rel =>
          refine ⟨i + 1, by omega, by go_num, fun j h hj => ?_⟩
          by_cases e : j = i
          · subst e; exact HE.out
          · exact HN.out j h (by omega)
        case measure => simp [intOf]; omega
    · have hbf : b = false := by
        rw [← hb.out]
        by_cases hm : l.contains c = true
        · have hm' : c ∈ l := by simpa using hm
          obtain ⟨j, hj, e⟩ := List.getElem_of_mem hm'
          exact absurd e (HN.out j hj (by omega))
        · simpa using hm
      subst hbf
      go_wp2
      go_ret
      exact ⟨rfl, rfl⟩
theorem isOf_lit (l : List UInt8) (hl : l.length ≤ 100) (c : UInt8) (z : Int) (hz : (c.toNat : Int) = z) (b : Bool) (hb : Hid (l.contains c = b)) (w : World) :
    Calls Tryz.prog 32 #[.string (bsl l), .int .u8 z] w fun e w' => e = .returned (.bool b) ∧ w = w' := by
  subst hz
  exact isOf_walk l hl c b hb w
theorem fieldWell_any (n : Int) (has b : Bool) (hb : (decide (n = 0) || has && decide (0 < n) && decide (n < 32)) = b) (w : World) :
    Calls Tryz.prog 31 #[.int .i64 n, .bool has] w fun e w' => e = .returned (.bool b) ∧ w = w' := by
  by_cases h0 : n = 0
  · subst h0
    simp at hb
    subst hb
    go_enter Tryz.func31, Tryz.ntmps31
    go_wp2
    go_ret
    exact ⟨rfl, rfl⟩
  · have h0' : (n == 0) = false := by simpa using h0
    cases has
    · simp [h0] at hb
      subst hb
      go_enter Tryz.func31, Tryz.ntmps31
      go_wp2
      go_ret
      exact ⟨rfl, rfl⟩
    · by_cases h1 : 0 < n
      · by_cases h2 : n < 32
        · simp [h0, h1, h2] at hb
          subst hb
          go_enter Tryz.func31, Tryz.ntmps31
          go_wp2
          go_ret
          exact ⟨rfl, rfl⟩
        · simp [h0, h2] at hb
          subst hb
          go_enter Tryz.func31, Tryz.ntmps31
          go_wp2
          go_ret
          exact ⟨rfl, rfl⟩
      · simp [h0, h1] at hb
        subst hb
        go_enter Tryz.func31, Tryz.ntmps31
        go_wp2
        go_ret
        exact ⟨rfl, rfl⟩
end Go.Proofs.YtnppegldebocmaaGreatDoor
