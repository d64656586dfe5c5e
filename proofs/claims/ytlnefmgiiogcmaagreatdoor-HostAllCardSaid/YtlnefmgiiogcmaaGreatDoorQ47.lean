/- The walk of the document's RunOf over rows of one op each, second part: its state. Conditions: as each theorem states. -/
import Derived.Test.YtlnefmgiiogcmaaGreatDoorQ46
import Derived.Test.YtlnefmgiiogcmaaGreatDoorQ12
import Derived.Test.YtlnefmgiiogcmaaGreatDoorQ13
import Derived.Deep.RegionHeld3
import Derived.Deep.AppendLies
set_option linter.unusedVariables false
set_option linter.unusedSimpArgs false
namespace Go.Proofs.YtlnefmgiiogcmaaGreatDoor
open Go.RowKit
structure OneRows (w : World) (gs : Nat) (bs : List Nat) (ops : List OpN) : Prop where
  len : bs.length = ops.length
  sl : ∀ i (h : i < bs.length), w.cell? ⟨gs, i, none⟩ = some (.slice (some ⟨bs[i], 0, none⟩) 1 1)
  op : ∀ i (h : i < bs.length) (h2 : i < ops.length), OpsAt w bs[i] [ops[i]]
  lt : gs < w.heap.size
theorem OneRows.of_kept {S : Nat → Prop} {w w' : World} {gs : Nat} {bs : List Nat} {ops : List OpN} (h : OneRows w gs bs ops) (hk : Kept S w w') (h1 : ¬ S gs) (h2 : ∀ b ∈ bs, ¬ S b) : OneRows w' gs bs ops where
  len := h.len
  sl i hi := by
    have := h.sl i hi
    unfold World.cell? at this ⊢
    simp only at this ⊢
    rw [hk.same gs h.lt h1]
    exact this
  op i hi hi2 := (h.op i hi hi2).of_block (hk.same _ (h.op i hi hi2).lt (h2 _ (List.getElem_mem hi)))
  lt := Nat.lt_of_lt_of_le h.lt hk.below.size
theorem OneRows.below {w w' : World} {gs : Nat} {bs : List Nat} {ops : List OpN} (h : OneRows w gs bs ops) (hb : Below w.heap.size w w') : OneRows w' gs bs ops := h.of_kept (S := fun _ => False) (.of_below hb) id (fun _ _ => id)
theorem OneRows.one {w : World} {gs : Nat} {bs : List Nat} {ops : List OpN} (h : OneRows w gs bs ops) {i : Nat} (hi : i < ops.length) : ∃ b, w.cell? ⟨gs, i, none⟩ = some (.slice (some ⟨b, 0, none⟩) 1 1) ∧ b < w.heap.size ∧
    w.cell? ⟨b, 0, none⟩ = some (.string (bsl ops[i].kind.text)) ∧ w.cell? ⟨b, 1, none⟩ = some (.int .i64 (ops[i].d : Int)) ∧ w.cell? ⟨b, 2, none⟩ = some (.int .i64 (ops[i].a : Int)) ∧ w.cell? ⟨b, 3, none⟩ = some (.int .i64 ops[i].b) ∧ w.cell? ⟨b, 4, none⟩ = some (.int .u32 ops[i].imm) ∧ w.cell? ⟨b, 5, none⟩ = some (.int .i64 (ops[i].at' : Int)) := by
  have hi2 : i < bs.length := by rw [h.len]; exact hi
  have ho := h.op i hi2 hi
  obtain ⟨c0, c1, c2, c3, c4, c5⟩ := ho.cells 0 (by simp)
  simp only [Nat.zero_mul, Nat.zero_add, List.getElem_cons_zero] at c0 c1 c2 c3 c4 c5
  exact ⟨_, h.sl i hi2, ho.lt, c0, c1, c2, c3, c4, c5⟩
abbrev Tri (w : World) (b : Nat) (t : TypeId) (a0 a1 a2 : Value) : Prop := w.heap[b]? = some (.cells #[a0, a1, a2] t (0, 0))
theorem Tri.cells {w : World} {b : Nat} {t : TypeId} {a0 a1 a2 : Value} (h : Tri w b t a0 a1 a2) : w.cell? ⟨b, 0, none⟩ = some a0 ∧ w.cell? ⟨b, 1, none⟩ = some a1 ∧ w.cell? ⟨b, 2, none⟩ = some a2 ∧ w.frozen? ⟨b, 0, none⟩ = false ∧ w.frozen? ⟨b, 1, none⟩ = false ∧ w.frozen? ⟨b, 2, none⟩ = false := by
  unfold Tri at h
  refine ⟨?_, ?_, ?_, ?_, ?_, ?_⟩ <;> simp [World.cell?, World.frozen?, h]
abbrev fill3 (w : World) (b : Nat) (v0 v1 v2 : Value) : World := ((w.setCell ⟨b, 0, none⟩ v0).setCell ⟨b, 1, none⟩ v1).setCell ⟨b, 2, none⟩ v2
theorem Tri.fill {w : World} {b : Nat} {t : TypeId} {a0 a1 a2 : Value} (h : Tri w b t a0 a1 a2) (v0 v1 v2 : Value) : Tri (fill3 w b v0 v1 v2) b t v0 v1 v2 := Joins.block_setCell (Joins.block_setCell (Joins.block_setCell h v0) v1) v2
structure ResC (w : World) (b : Nat) (v p : Int) (t l : Bool) : Prop where
  c0 : w.cell? ⟨b, 0, none⟩ = some (.int .u32 v)
  c1 : w.cell? ⟨b, 1, none⟩ = some (.int .u32 p)
  c2 : w.cell? ⟨b, 2, none⟩ = some (.bool t)
  c3 : w.cell? ⟨b, 3, none⟩ = some (.bool l)
theorem ResC.own {w : World} {B g cap : Nat} {e : TypeId} {v p : Int} {t l : Bool} (h : w.ownsRow B e 4 (.slice (some ⟨g, 0, none⟩) (0 + 1) cap) (0 + 1) ([] ++ [.int .u32 v, .int .u32 p, .bool t, .bool l])) : ResC w g v p t l := by
  have hc := fun j u => h.cells (g := g) rfl j u
  have ha : ∀ j, (⟨g, 0, none⟩ : Addr).add j = ⟨g, j, none⟩ := fun j => addr_add g j
  exact ⟨by have := hc 0 _ rfl; rw [ha] at this; exact this, by have := hc 1 _ rfl; rw [ha] at this; exact this, by have := hc 2 _ rfl; rw [ha] at this; exact this, by have := hc 3 _ rfl; rw [ha] at this; exact this⟩
theorem ResC.below {w w' : World} {b : Nat} {v p : Int} {t l : Bool} (h : ResC w b v p t l) (hb : Below w.heap.size w w') : ResC w' b v p t l :=
  ⟨(hb.cell (World.block_lt_of_cell? _ _ h.c0)).trans h.c0, (hb.cell (World.block_lt_of_cell? _ _ h.c1)).trans h.c1, (hb.cell (World.block_lt_of_cell? _ _ h.c2)).trans h.c2, (hb.cell (World.block_lt_of_cell? _ _ h.c3)).trans h.c3⟩
section
variable {w0 w w' : World} {eb mb x xw xa xh sb r bw ba bh gs : Nat} {bs : List Nat} {ops : List OpN} {s : StF} {X : Regs} {ws ws0 : List Int} {wt ht ht0 : Nat → Bool}
end
end Go.Proofs.YtlnefmgiiogcmaaGreatDoor
