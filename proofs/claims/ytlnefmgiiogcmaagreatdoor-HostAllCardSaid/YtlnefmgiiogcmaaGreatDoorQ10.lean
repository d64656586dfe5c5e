/- The walks of the document's RowOf and KindOf. Conditions: as each theorem states. -/
import Derived.Test.YtlnefmgiiogcmaaGreatDoorQ09
import Derived.Handy
import Derived.Great.Walk
import Derived.Test.YtlnefmgiiogcmaaGreatDoorQ04
import Derived.Deep.MidRow
set_option linter.unusedVariables false
set_option linter.unusedSimpArgs false
namespace Go.Proofs.YtlnefmgiiogcmaaGreatDoor
open Go.RowKit
def Six (w : World) (b : Nat) (t : TypeId) (a0 a1 a2 a3 a4 a5 : Value) : Prop := w.heap[b]? = some (.cells #[a0, a1, a2, a3, a4, a5] t (0, 0))
theorem Six.cells {w : World} {b : Nat} {t : TypeId} {a0 a1 a2 a3 a4 a5 : Value} (h : Six w b t a0 a1 a2 a3 a4 a5) :
    w.cell? ⟨b, 0, none⟩ = some a0 ∧ w.cell? ⟨b, 1, none⟩ = some a1 ∧ w.cell? ⟨b, 2, none⟩ = some a2 ∧ w.cell? ⟨b, 3, none⟩ = some a3 ∧ w.cell? ⟨b, 4, none⟩ = some a4 ∧ w.cell? ⟨b, 5, none⟩ = some a5 := by
  unfold Six at h
  refine ⟨?_, ?_, ?_, ?_, ?_, ?_⟩ <;> simp [World.cell?, h]
theorem Six.free {w : World} {b : Nat} {t : TypeId} {a0 a1 a2 a3 a4 a5 : Value} (h : Six w b t a0 a1 a2 a3 a4 a5) :
    w.frozen? ⟨b, 0, none⟩ = false ∧ w.frozen? ⟨b, 1, none⟩ = false ∧ w.frozen? ⟨b, 2, none⟩ = false ∧ w.frozen? ⟨b, 3, none⟩ = false ∧ w.frozen? ⟨b, 4, none⟩ = false ∧ w.frozen? ⟨b, 5, none⟩ = false := by
  unfold Six at h
  refine ⟨?_, ?_, ?_, ?_, ?_, ?_⟩ <;> simp [World.frozen?, h]
theorem Six.new (w : World) (a0 a1 a2 a3 a4 a5 : Value) (t : TypeId) : Six (w.alloc (.cells #[a0, a1, a2, a3, a4, a5] t)) w.heap.size t a0 a1 a2 a3 a4 a5 := heap_alloc_new w _
theorem Six.below {w w' : World} {b B : Nat} {t : TypeId} {a0 a1 a2 a3 a4 a5 : Value} (h : Six w b t a0 a1 a2 a3 a4 a5) (hb : Below B w w') (hB : b < B) : Six w' b t a0 a1 a2 a3 a4 a5 := (hb.block b hB).trans h
end Go.Proofs.YtlnefmgiiogcmaaGreatDoor
