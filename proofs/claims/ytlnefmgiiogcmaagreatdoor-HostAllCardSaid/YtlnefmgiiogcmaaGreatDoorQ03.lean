/- The walks of code.of at each operation: its shape is the table's. Conditions: as each theorem states. -/
import Derived.Test.YtlnefmgiiogcmaaGreatDoorRows
import Derived.Test.YtlnefmgiiogcmaaGreatDoorQ01
import Derived.WalkKit
import Derived.WalkSpells
import Derived.WalkLawsBesides
import Derived.Handy
set_option linter.unusedVariables false
set_option linter.unusedSimpArgs false
namespace Go.Proofs.YtlnefmgiiogcmaaGreatDoor
open Go.RowKit
theorem of_big (n : Int) (h : 54 ≤ n) (w : World) :
    Calls Tryz.prog 64 #[.int .i64 n] w fun e w' => e = .returned (shapeV n) ∧ Below w.heap.size w w' := by
  rw [shapeV_big n (Or.inl h)]
  go_enter Tryz.func64, Tryz.ntmps64
  go_wp2
  go_returns
  exact ⟨rfl, by go_grown⟩
theorem of_low (n : Int) (h : n ≤ 0) (w : World) :
    Calls Tryz.prog 64 #[.int .i64 n] w fun e w' => e = .returned (shapeV n) ∧ Below w.heap.size w w' := by
  rw [shapeV_big n (Or.inr h)]
  go_enter Tryz.func64, Tryz.ntmps64
  go_wp2
  go_returns
  exact ⟨rfl, by go_grown⟩
theorem of_29 (w : World) :
    Calls Tryz.prog 64 #[.int .i64 29] w fun e w' => e = .returned (shapeV 29) ∧ Below w.heap.size w w' := by
  go_enter Tryz.func64, Tryz.ntmps64
  go_wp2
  go_returns
  exact ⟨rfl, by go_grown⟩
theorem of_30 (w : World) :
    Calls Tryz.prog 64 #[.int .i64 30] w fun e w' => e = .returned (shapeV 30) ∧ Below w.heap.size w w' := by
  go_enter Tryz.func64, Tryz.ntmps64
  go_wp2
  go_returns
  exact ⟨rfl, by go_grown⟩
theorem of_31 (w : World) :
    Calls Tryz.prog 64 #[.int .i64 31] w fun e w' => e = .returned (shapeV 31) ∧ Below w.heap.size w w' := by
  go_enter Tryz.func64, Tryz.ntmps64
  go_wp2
  go_returns
  exact ⟨rfl, by go_grown⟩
theorem of_32 (w : World) :
    Calls Tryz.prog 64 #[.int .i64 32] w fun e w' => e = .returned (shapeV 32) ∧ Below w.heap.size w w' := by
  go_enter Tryz.func64, Tryz.ntmps64
  go_wp2
  go_returns
  exact ⟨rfl, by go_grown⟩
theorem of_33 (w : World) :
    Calls Tryz.prog 64 #[.int .i64 33] w fun e w' => e = .returned (shapeV 33) ∧ Below w.heap.size w w' := by
  go_enter Tryz.func64, Tryz.ntmps64
  go_wp2
  go_returns
  exact ⟨rfl, by go_grown⟩
theorem of_34 (w : World) :
    Calls Tryz.prog 64 #[.int .i64 34] w fun e w' => e = .returned (shapeV 34) ∧ Below w.heap.size w w' := by
  go_enter Tryz.func64, Tryz.ntmps64
  go_wp2
  go_returns
  exact ⟨rfl, by go_grown⟩
theorem of_35 (w : World) :
    Calls Tryz.prog 64 #[.int .i64 35] w fun e w' => e = .returned (shapeV 35) ∧ Below w.heap.size w w' := by
  go_enter Tryz.func64, Tryz.ntmps64
  go_wp2
  go_returns
  exact ⟨rfl, by go_grown⟩
theorem of_36 (w : World) :
    Calls Tryz.prog 64 #[.int .i64 36] w fun e w' => e = .returned (shapeV 36) ∧ Below w.heap.size w w' := by
  go_enter Tryz.func64, Tryz.ntmps64
  go_wp2
  go_returns
  exact ⟨rfl, by go_grown⟩
theorem of_37 (w : World) :
    Calls Tryz.prog 64 #[.int .i64 37] w fun e w' => e = .returned (shapeV 37) ∧ Below w.heap.size w w' := by
  go_enter Tryz.func64, Tryz.ntmps64
  go_wp2
  go_returns
  exact ⟨rfl, by go_grown⟩
theorem of_38 (w : World) :
    Calls Tryz.prog 64 #[.int .i64 38] w fun e w' => e = .returned (shapeV 38) ∧ Below w.heap.size w w' := by
  go_enter Tryz.func64, Tryz.ntmps64
  go_wp2
  go_returns
  exact ⟨rfl, by go_grown⟩
theorem of_39 (w : World) :
    Calls Tryz.prog 64 #[.int .i64 39] w fun e w' => e = .returned (shapeV 39) ∧ Below w.heap.size w w' := by
  go_enter Tryz.func64, Tryz.ntmps64
  go_wp2
  go_returns
  exact ⟨rfl, by go_grown⟩
theorem of_40 (w : World) :
    Calls Tryz.prog 64 #[.int .i64 40] w fun e w' => e = .returned (shapeV 40) ∧ Below w.heap.size w w' := by
  go_enter Tryz.func64, Tryz.ntmps64
  go_wp2
  go_returns
  exact ⟨rfl, by go_grown⟩
theorem of_41 (w : World) :
    Calls Tryz.prog 64 #[.int .i64 41] w fun e w' => e = .returned (shapeV 41) ∧ Below w.heap.size w w' := by
  go_enter Tryz.func64, Tryz.ntmps64
  go_wp2
  go_returns
  exact ⟨rfl, by go_grown⟩
theorem of_42 (w : World) :
    Calls Tryz.prog 64 #[.int .i64 42] w fun e w' => e = .returned (shapeV 42) ∧ Below w.heap.size w w' := by
  go_enter Tryz.func64, Tryz.ntmps64
  go_wp2
  go_returns
  exact ⟨rfl, by go_grown⟩
theorem of_43 (w : World) :
    Calls Tryz.prog 64 #[.int .i64 43] w fun e w' => e = .returned (shapeV 43) ∧ Below w.heap.size w w' := by
  go_enter Tryz.func64, Tryz.ntmps64
  go_wp2
  go_returns
  exact ⟨rfl, by go_grown⟩
theorem of_44 (w : World) :
    Calls Tryz.prog 64 #[.int .i64 44] w fun e w' => e = .returned (shapeV 44) ∧ Below w.heap.size w w' := by
  go_enter Tryz.func64, Tryz.ntmps64
  go_wp2
  go_returns
  exact ⟨rfl, by go_grown⟩
theorem of_45 (w : World) :
    Calls Tryz.prog 64 #[.int .i64 45] w fun e w' => e = .returned (shapeV 45) ∧ Below w.heap.size w w' := by
  go_enter Tryz.func64, Tryz.ntmps64
  go_wp2
  go_returns
  exact ⟨rfl, by go_grown⟩
theorem of_46 (w : World) :
    Calls Tryz.prog 64 #[.int .i64 46] w fun e w' => e = .returned (shapeV 46) ∧ Below w.heap.size w w' := by
  go_enter Tryz.func64, Tryz.ntmps64
  go_wp2
  go_returns
  exact ⟨rfl, by go_grown⟩
theorem of_47 (w : World) :
    Calls Tryz.prog 64 #[.int .i64 47] w fun e w' => e = .returned (shapeV 47) ∧ Below w.heap.size w w' := by
  go_enter Tryz.func64, Tryz.ntmps64
  go_wp2
  go_returns
  exact ⟨rfl, by go_grown⟩
theorem of_48 (w : World) :
    Calls Tryz.prog 64 #[.int .i64 48] w fun e w' => e = .returned (shapeV 48) ∧ Below w.heap.size w w' := by
  go_enter Tryz.func64, Tryz.ntmps64
  go_wp2
  go_returns
  exact ⟨rfl, by go_grown⟩
theorem of_49 (w : World) :
    Calls Tryz.prog 64 #[.int .i64 49] w fun e w' => e = .returned (shapeV 49) ∧ Below w.heap.size w w' := by
  go_enter Tryz.func64, Tryz.ntmps64
  go_wp2
  go_returns
  exact ⟨rfl, by go_grown⟩
theorem of_50 (w : World) :
    Calls Tryz.prog 64 #[.int .i64 50] w fun e w' => e = .returned (shapeV 50) ∧ Below w.heap.size w w' := by
  go_enter Tryz.func64, Tryz.ntmps64
  go_wp2
  go_returns
  exact ⟨rfl, by go_grown⟩
theorem of_51 (w : World) :
    Calls Tryz.prog 64 #[.int .i64 51] w fun e w' => e = .returned (shapeV 51) ∧ Below w.heap.size w w' := by
  go_enter Tryz.func64, Tryz.ntmps64
  go_wp2
  go_returns
  exact ⟨rfl, by go_grown⟩
theorem of_52 (w : World) :
    Calls Tryz.prog 64 #[.int .i64 52] w fun e w' => e = .returned (shapeV 52) ∧ Below w.heap.size w w' := by
  go_enter Tryz.func64, Tryz.ntmps64
  go_wp2
  go_returns
  exact ⟨rfl, by go_grown⟩
theorem of_53 (w : World) :
    Calls Tryz.prog 64 #[.int .i64 53] w fun e w' => e = .returned (shapeV 53) ∧ Below w.heap.size w w' := by
  go_enter Tryz.func64, Tryz.ntmps64
  go_wp2
  go_returns
  exact ⟨rfl, by go_grown⟩
end Go.Proofs.YtlnefmgiiogcmaaGreatDoor
