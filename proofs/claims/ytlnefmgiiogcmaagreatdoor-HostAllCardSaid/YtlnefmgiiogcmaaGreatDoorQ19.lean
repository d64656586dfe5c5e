/- The walk of the document's branch of an instruction. Conditions: as each theorem states. -/
import Derived.Test.YtlnefmgiiogcmaaGreatDoorQ13
import Derived.Test.YtlnefmgiiogcmaaGreatDoorQ04
import Derived.Deep.RegionHeld3
import Derived.Deep.MidRow
set_option linter.unusedVariables false
set_option linter.unusedSimpArgs false
namespace Go.Proofs.YtlnefmgiiogcmaaGreatDoor
open Go.RowKit
theorem cell_setCell_block (w : World) (b i : Nat) (v : Value) {k j : Nat} (h : k ≠ b) : (w.setCell ⟨b, i, none⟩ v).cell? ⟨k, j, none⟩ = w.cell? ⟨k, j, none⟩ := World.cell?_of_block (setCell_other w b i k v h)
end Go.Proofs.YtlnefmgiiogcmaaGreatDoor
