/- The walks of code.of at each operation: its shape is the table's. Conditions: as each theorem states. -/
import Derived.Test.YtlnefmgiiogcmaaGreatDoorRows
import Derived.Test.YtlnefmgiiogcmaaGreatDoorQ01
import Derived.WalkKit
import Derived.WalkSpells
import Derived.WalkLawsBesides
import Derived.Handy
set_option linter.unusedVariables false
set_option linter.unusedSimpArgs false
namespace Go.Proofs.YtlnefmgiiogcmaaGreatDoor
open Go.RowKit
theorem of_1 (w : World) :
    Calls Tryz.prog 64 #[.int .i64 1] w fun e w' => e = .returned (shapeV 1) ∧ Below w.heap.size w w' := by
  go_enter Tryz.func64, Tryz.ntmps64
  go_wp2
  go_returns
  exact ⟨rfl, by go_grown⟩
theorem of_2 (w : World) :
    Calls Tryz.prog 64 #[.int .i64 2] w fun e w' => e = .returned (shapeV 2) ∧ Below w.heap.size w w' := by
  go_enter Tryz.func64, Tryz.ntmps64
  go_wp2
  go_returns
  exact ⟨rfl, by go_grown⟩
theorem of_3 (w : World) :
    Calls Tryz.prog 64 #[.int .i64 3] w fun e w' => e = .returned (shapeV 3) ∧ Below w.heap.size w w' := by
  go_enter Tryz.func64, Tryz.ntmps64
  go_wp2
  go_returns
  exact ⟨rfl, by go_grown⟩
theorem of_4 (w : World) :
    Calls Tryz.prog 64 #[.int .i64 4] w fun e w' => e = .returned (shapeV 4) ∧ Below w.heap.size w w' := by
  go_enter Tryz.func64, Tryz.ntmps64
  go_wp2
  go_returns
  exact ⟨rfl, by go_grown⟩
theorem of_5 (w : World) :
    Calls Tryz.prog 64 #[.int .i64 5] w fun e w' => e = .returned (shapeV 5) ∧ Below w.heap.size w w' := by
  go_enter Tryz.func64, Tryz.ntmps64
  go_wp2
  go_returns
  exact ⟨rfl, by go_grown⟩
theorem of_6 (w : World) :
    Calls Tryz.prog 64 #[.int .i64 6] w fun e w' => e = .returned (shapeV 6) ∧ Below w.heap.size w w' := by
  go_enter Tryz.func64, Tryz.ntmps64
  go_wp2
  go_returns
  exact ⟨rfl, by go_grown⟩
theorem of_7 (w : World) :
    Calls Tryz.prog 64 #[.int .i64 7] w fun e w' => e = .returned (shapeV 7) ∧ Below w.heap.size w w' := by
  go_enter Tryz.func64, Tryz.ntmps64
  go_wp2
  go_returns
  exact ⟨rfl, by go_grown⟩
theorem of_8 (w : World) :
    Calls Tryz.prog 64 #[.int .i64 8] w fun e w' => e = .returned (shapeV 8) ∧ Below w.heap.size w w' := by
  go_enter Tryz.func64, Tryz.ntmps64
  go_wp2
  go_returns
  exact ⟨rfl, by go_grown⟩
theorem of_9 (w : World) :
    Calls Tryz.prog 64 #[.int .i64 9] w fun e w' => e = .returned (shapeV 9) ∧ Below w.heap.size w w' := by
  go_enter Tryz.func64, Tryz.ntmps64
  go_wp2
  go_returns
  exact ⟨rfl, by go_grown⟩
theorem of_10 (w : World) :
    Calls Tryz.prog 64 #[.int .i64 10] w fun e w' => e = .returned (shapeV 10) ∧ Below w.heap.size w w' := by
  go_enter Tryz.func64, Tryz.ntmps64
  go_wp2
  go_returns
  exact ⟨rfl, by go_grown⟩
theorem of_11 (w : World) :
    Calls Tryz.prog 64 #[.int .i64 11] w fun e w' => e = .returned (shapeV 11) ∧ Below w.heap.size w w' := by
  go_enter Tryz.func64, Tryz.ntmps64
  go_wp2
  go_returns
  exact ⟨rfl, by go_grown⟩
theorem of_12 (w : World) :
    Calls Tryz.prog 64 #[.int .i64 12] w fun e w' => e = .returned (shapeV 12) ∧ Below w.heap.size w w' := by
  go_enter Tryz.func64, Tryz.ntmps64
  go_wp2
  go_returns
  exact ⟨rfl, by go_grown⟩
theorem of_13 (w : World) :
    Calls Tryz.prog 64 #[.int .i64 13] w fun e w' => e = .returned (shapeV 13) ∧ Below w.heap.size w w' := by
  go_enter Tryz.func64, Tryz.ntmps64
  go_wp2
  go_returns
  exact ⟨rfl, by go_grown⟩
theorem of_14 (w : World) :
    Calls Tryz.prog 64 #[.int .i64 14] w fun e w' => e = .returned (shapeV 14) ∧ Below w.heap.size w w' := by
  go_enter Tryz.func64, Tryz.ntmps64
  go_wp2
  go_returns
  exact ⟨rfl, by go_grown⟩
theorem of_15 (w : World) :
    Calls Tryz.prog 64 #[.int .i64 15] w fun e w' => e = .returned (shapeV 15) ∧ Below w.heap.size w w' := by
  go_enter Tryz.func64, Tryz.ntmps64
  go_wp2
  go_returns
  exact ⟨rfl, by go_grown⟩
theorem of_16 (w : World) :
    Calls Tryz.prog 64 #[.int .i64 16] w fun e w' => e = .returned (shapeV 16) ∧ Below w.heap.size w w' := by
  go_enter Tryz.func64, Tryz.ntmps64
  go_wp2
  go_returns
  exact ⟨rfl, by go_grown⟩
theorem of_17 (w : World) :
    Calls Tryz.prog 64 #[.int .i64 17] w fun e w' => e = .returned (shapeV 17) ∧ Below w.heap.size w w' := by
  go_enter Tryz.func64, Tryz.ntmps64
  go_wp2
  go_returns
  exact ⟨rfl, by go_grown⟩
theorem of_18 (w : World) :
    Calls Tryz.prog 64 #[.int .i64 18] w fun e w' => e = .returned (shapeV 18) ∧ Below w.heap.size w w' := by
  go_enter Tryz.func64, Tryz.ntmps64
  go_wp2
  go_returns
  exact ⟨rfl, by go_grown⟩
theorem of_19 (w : World) :
    Calls Tryz.prog 64 #[.int .i64 19] w fun e w' => e = .returned (shapeV 19) ∧ Below w.heap.size w w' := by
  go_enter Tryz.func64, Tryz.ntmps64
  go_wp2
  go_returns
  exact ⟨rfl, by go_grown⟩
theorem of_20 (w : World) :
    Calls Tryz.prog 64 #[.int .i64 20] w fun e w' => e = .returned (shapeV 20) ∧ Below w.heap.size w w' := by
  go_enter Tryz.func64, Tryz.ntmps64
  go_wp2
  go_returns
  exact ⟨rfl, by go_grown⟩
theorem of_21 (w : World) :
    Calls Tryz.prog 64 #[.int .i64 21] w fun e w' => e = .returned (shapeV 21) ∧ Below w.heap.size w w' := by
  go_enter Tryz.func64, Tryz.ntmps64
  go_wp2
  go_returns
  exact ⟨rfl, by go_grown⟩
theorem of_22 (w : World) :
    Calls Tryz.prog 64 #[.int .i64 22] w fun e w' => e = .returned (shapeV 22) ∧ Below w.heap.size w w' := by
  go_enter Tryz.func64, Tryz.ntmps64
  go_wp2
  go_returns
  exact ⟨rfl, by go_grown⟩
theorem of_23 (w : World) :
    Calls Tryz.prog 64 #[.int .i64 23] w fun e w' => e = .returned (shapeV 23) ∧ Below w.heap.size w w' := by
  go_enter Tryz.func64, Tryz.ntmps64
  go_wp2
  go_returns
  exact ⟨rfl, by go_grown⟩
theorem of_24 (w : World) :
    Calls Tryz.prog 64 #[.int .i64 24] w fun e w' => e = .returned (shapeV 24) ∧ Below w.heap.size w w' := by
  go_enter Tryz.func64, Tryz.ntmps64
  go_wp2
  go_returns
  exact ⟨rfl, by go_grown⟩
theorem of_25 (w : World) :
    Calls Tryz.prog 64 #[.int .i64 25] w fun e w' => e = .returned (shapeV 25) ∧ Below w.heap.size w w' := by
  go_enter Tryz.func64, Tryz.ntmps64
  go_wp2
  go_returns
  exact ⟨rfl, by go_grown⟩
theorem of_26 (w : World) :
    Calls Tryz.prog 64 #[.int .i64 26] w fun e w' => e = .returned (shapeV 26) ∧ Below w.heap.size w w' := by
  go_enter Tryz.func64, Tryz.ntmps64
  go_wp2
  go_returns
  exact ⟨rfl, by go_grown⟩
theorem of_27 (w : World) :
    Calls Tryz.prog 64 #[.int .i64 27] w fun e w' => e = .returned (shapeV 27) ∧ Below w.heap.size w w' := by
  go_enter Tryz.func64, Tryz.ntmps64
  go_wp2
  go_returns
  exact ⟨rfl, by go_grown⟩
theorem of_28 (w : World) :
    Calls Tryz.prog 64 #[.int .i64 28] w fun e w' => e = .returned (shapeV 28) ∧ Below w.heap.size w w' := by
  go_enter Tryz.func64, Tryz.ntmps64
  go_wp2
  go_returns
  exact ⟨rfl, by go_grown⟩
end Go.Proofs.YtlnefmgiiogcmaaGreatDoor
