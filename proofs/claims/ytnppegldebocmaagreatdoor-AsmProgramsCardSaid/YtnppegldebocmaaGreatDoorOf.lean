/- The walks of code.of at each operation: its shape is the table's. Conditions: none. -/
import Derived.Test.YtnppegldebocmaaGreatDoorRows
import Derived.Test.YtnppegldebocmaaGreatDoorTab
import Derived.Test.YtnppegldebocmaaGreatDoorOfA
import Derived.Test.YtnppegldebocmaaGreatDoorOfB
import Derived.WalkKit
import Derived.WalkSpells
import Derived.WalkLawsBesides
import Derived.Handy
namespace Go.Proofs.YtnppegldebocmaaGreatDoor
open Go.RowKit
theorem of_mid (k : Nat) (h1 : 1 ≤ k) (h2 : k < 54) (w : World) :
    Calls Tryz.prog 42 #[.int .i64 (k : Int)] w fun e w' => e = .returned (shapeV (k : Int)) ∧ Below w.heap.size w w' := by
  match k, h1, h2 with
  | 0, h, _ => omega
  | 1, _, _ => exact of_1 w
  | 2, _, _ => exact of_2 w
  | 3, _, _ => exact of_3 w
  | 4, _, _ => exact of_4 w
  | 5, _, _ => exact of_5 w
  | 6, _, _ => exact of_6 w
  | 7, _, _ => exact of_7 w
  | 8, _, _ => exact of_8 w
  | 9, _, _ => exact of_9 w
  | 10, _, _ => exact of_10 w
  | 11, _, _ => exact of_11 w
  | 12, _, _ => exact of_12 w
  | 13, _, _ => exact of_13 w
  | 14, _, _ => exact of_14 w
  | 15, _, _ => exact of_15 w
  | 16, _, _ => exact of_16 w
  | 17, _, _ => exact of_17 w
  | 18, _, _ => exact of_18 w
  | 19, _, _ => exact of_19 w
  | 20, _, _ => exact of_20 w
  | 21, _, _ => exact of_21 w
  | 22, _, _ => exact of_22 w
  | 23, _, _ => exact of_23 w
  | 24, _, _ => exact of_24 w
  | 25, _, _ => exact of_25 w
  | 26, _, _ => exact of_26 w
  | 27, _, _ => exact of_27 w
  | 28, _, _ => exact of_28 w
  | 29, _, _ => exact of_29 w
  | 30, _, _ => exact of_30 w
  | 31, _, _ => exact of_31 w
  | 32, _, _ => exact of_32 w
  | 33, _, _ => exact of_33 w
  | 34, _, _ => exact of_34 w
  | 35, _, _ => exact of_35 w
  | 36, _, _ => exact of_36 w
  | 37, _, _ => exact of_37 w
  | 38, _, _ => exact of_38 w
  | 39, _, _ => exact of_39 w
  | 40, _, _ => exact of_40 w
  | 41, _, _ => exact of_41 w
  | 42, _, _ => exact of_42 w
  | 43, _, _ => exact of_43 w
  | 44, _, _ => exact of_44 w
  | 45, _, _ => exact of_45 w
  | 46, _, _ => exact of_46 w
  | 47, _, _ => exact of_47 w
  | 48, _, _ => exact of_48 w
  | 49, _, _ => exact of_49 w
  | 50, _, _ => exact of_50 w
  | 51, _, _ => exact of_51 w
  | 52, _, _ => exact of_52 w
  | 53, _, _ => exact of_53 w
  | k + 54, _, h => omega
theorem of_any (n : Int) (w : World) :
    Calls Tryz.prog 42 #[.int .i64 n] w fun e w' => e = .returned (shapeV n) ∧ Below w.heap.size w w' := by
  by_cases hl : n ≤ 0
  · exact of_low n hl w
  · by_cases hb : 54 ≤ n
    · exact of_big n hb w
    · obtain ⟨k, rfl⟩ := Int.eq_ofNat_of_zero_le (a := n) (by omega)
      exact of_mid k (by omega) (by omega) w
end Go.Proofs.YtnppegldebocmaaGreatDoor
