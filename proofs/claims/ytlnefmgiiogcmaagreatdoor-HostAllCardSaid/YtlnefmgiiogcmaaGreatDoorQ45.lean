/- The walk of the document's ResultOf: load, store, quotients, sums. Conditions: as each theorem states. -/
import Derived.Test.YtlnefmgiiogcmaaGreatDoorQ08
set_option linter.unusedVariables false
set_option linter.unusedSimpArgs false
namespace Go.Proofs.YtlnefmgiiogcmaaGreatDoor
open Go.RowKit
set_option maxRecDepth 100000
set_option maxHeartbeats 4000000
abbrev Four (w : World) (b : Nat) (t : TypeId) (a0 a1 a2 a3 : Value) : Prop := w.heap[b]? = some (.cells #[a0, a1, a2, a3] t (0, 0))
theorem Four.cells {w : World} {b : Nat} {t : TypeId} {a0 a1 a2 a3 : Value} (h : Four w b t a0 a1 a2 a3) : w.cell? ⟨b, 0, none⟩ = some a0 ∧ w.cell? ⟨b, 1, none⟩ = some a1 ∧ w.cell? ⟨b, 2, none⟩ = some a2 ∧ w.cell? ⟨b, 3, none⟩ = some a3 ∧ w.frozen? ⟨b, 0, none⟩ = false ∧ w.frozen? ⟨b, 1, none⟩ = false ∧ w.frozen? ⟨b, 2, none⟩ = false ∧ w.frozen? ⟨b, 3, none⟩ = false := by
  unfold Four at h
  refine ⟨?_, ?_, ?_, ?_, ?_, ?_, ?_, ?_⟩ <;> simp [World.cell?, World.frozen?, h]
abbrev fill4 (w : World) (b : Nat) (v0 v1 v2 v3 : Value) : World := (((w.setCell ⟨b, 0, none⟩ v0).setCell ⟨b, 1, none⟩ v1).setCell ⟨b, 2, none⟩ v2).setCell ⟨b, 3, none⟩ v3
theorem Four.fill {w : World} {b : Nat} {t : TypeId} {a0 a1 a2 a3 : Value} (h : Four w b t a0 a1 a2 a3) (v0 v1 v2 v3 : Value) : Four (fill4 w b v0 v1 v2 v3) b t v0 v1 v2 v3 :=
  Joins.block_setCell (Joins.block_setCell (Joins.block_setCell (Joins.block_setCell h v0) v1) v2) v3
theorem Four.new (w : World) (a0 a1 a2 a3 : Value) (t : TypeId) : Four (w.alloc (.cells #[a0, a1, a2, a3] t)) w.heap.size t a0 a1 a2 a3 := heap_alloc_new w _
section
variable (X : Regs) (xs : Array Value) (hx : xs.size = 64) (hX : ∀ k (h : k < 64), xs[k]'(by omega) = .int .u32 (X k)) (r : Nat)
include hx hX
end
end Go.Proofs.YtlnefmgiiogcmaaGreatDoor
