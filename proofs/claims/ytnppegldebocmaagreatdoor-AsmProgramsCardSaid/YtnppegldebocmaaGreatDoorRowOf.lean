/- The walks of the document's RowOf and KindOf. Conditions: as each theorem states. -/
import Derived.Test.YtnppegldebocmaaGreatDoorRowsR
import Derived.Test.YtnppegldebocmaaGreatDoorEncP
import Derived.Deep.MidRow
namespace Go.Proofs.YtnppegldebocmaaGreatDoor
open Go.RowKit
abbrev rowNone : Value := .agg #[.string ⟨#[]⟩, .int .i64 0, .int .i64 0, .string ⟨#[]⟩, .string ⟨#[]⟩, .string ⟨#[]⟩]
/-- A block holds the document's table. -/
def RowsAt (w : World) (b : Nat) : Prop := ∀ k j v, k < 54 → (rowCells k)[j]? = some v → w.cell? ⟨b, k * 6 + j, none⟩ = some v
theorem rowsAt_range {w : World} {b : Nat} (h : RowsAt w b) (k : Nat) (hk : k < 54) : w.rangeAt b (k * 6) (rowCells k) := fun j v hv => h k j v hk hv
theorem rowsAt_new (w : World) (t : TypeId) : RowsAt (w.alloc (.cells rowsCells t)) w.heap.size := by
  intro k j v hk hv
  have hj : j < 6 := by
    have := (List.getElem?_eq_some_iff.1 hv).1
    simpa [rowCells] using this
  have h := rows_cell k j hk hj
  rw [Nat.mul_comm 6 k] at h
  rw [hv] at h
  have hh : (w.alloc (.cells rowsCells t)).heap[w.heap.size]? = some (.cells rowsCells t (0, 0)) := heap_alloc_new w _
  unfold World.cell?
  rw [hh]
  exact h
theorem rows_R (w : World) : Calls Tryz.prog 38 #[] w fun e w' => ∃ b, e = .returned (.slice (some ⟨b, 0, none⟩) 54 54) ∧ w.heap.size ≤ b ∧ b < w'.heap.size ∧ RowsAt w' b ∧ Below w.heap.size w w' := by
  refine (rows_any w).mono ?_
  rintro e w' ⟨rfl, rfl⟩
  exact ⟨_, rfl, Nat.le_refl _, by simp, rowsAt_new w _, by go_grown⟩
theorem rowLoad {w : World} {b : Nat} (h : RowsAt w b) (k : Nat) (hk : k < 54) : (Instr.loadAt 65 (.pointer (some ⟨b, k * 6, none⟩))).run Tryz.prog w = .ok (rowV k) w :=
  run_loadAt_mid w b (k * 6) _ _ _ (rowsAt_range h k hk) Tryz.underlying65 rfl (by kernel_rfl)
/-- Block b holds these six cells, none of them frozen. -/
def Six (w : World) (b : Nat) (t : TypeId) (a0 a1 a2 a3 a4 a5 : Value) : Prop := w.heap[b]? = some (.cells #[a0, a1, a2, a3, a4, a5] t (0, 0))
theorem Six.cells {w : World} {b : Nat} {t : TypeId} {a0 a1 a2 a3 a4 a5 : Value} (h : Six w b t a0 a1 a2 a3 a4 a5) :
    w.cell? ⟨b, 0, none⟩ = some a0 ∧ w.cell? ⟨b, 1, none⟩ = some a1 ∧ w.cell? ⟨b, 2, none⟩ = some a2 ∧ w.cell? ⟨b, 3, none⟩ = some a3 ∧ w.cell? ⟨b, 4, none⟩ = some a4 ∧ w.cell? ⟨b, 5, none⟩ = some a5 := by
  unfold Six at h
  refine ⟨?_, ?_, ?_, ?_, ?_, ?_⟩ <;> simp [World.cell?, h]
theorem Six.free {w : World} {b : Nat} {t : TypeId} {a0 a1 a2 a3 a4 a5 : Value} (h : Six w b t a0 a1 a2 a3 a4 a5) :
    w.frozen? ⟨b, 0, none⟩ = false ∧ w.frozen? ⟨b, 1, none⟩ = false ∧ w.frozen? ⟨b, 2, none⟩ = false ∧ w.frozen? ⟨b, 3, none⟩ = false ∧ w.frozen? ⟨b, 4, none⟩ = false ∧ w.frozen? ⟨b, 5, none⟩ = false := by
  unfold Six at h
  refine ⟨?_, ?_, ?_, ?_, ?_, ?_⟩ <;> simp [World.frozen?, h]
theorem Six.new (w : World) (a0 a1 a2 a3 a4 a5 : Value) (t : TypeId) : Six (w.alloc (.cells #[a0, a1, a2, a3, a4, a5] t)) w.heap.size t a0 a1 a2 a3 a4 a5 := heap_alloc_new w _
theorem Six.below {w w' : World} {b B : Nat} {t : TypeId} {a0 a1 a2 a3 a4 a5 : Value} (h : Six w b t a0 a1 a2 a3 a4 a5) (hb : Below B w w') (hB : b < B) : Six w' b t a0 a1 a2 a3 a4 a5 := (hb.block b hB).trans h
theorem rowOf_at (k : Nat) (h1 : 1 ≤ k) (hk : k < 54) (w : World) :
    Calls Tryz.prog 30 #[.int .i64 (k : Int)] w fun e w' => e = .returned (rowV k) ∧ Below w.heap.size w w' := by
  have ha : ((k : Int) < 1) = False := eq_false (by omega)
  have hb : ((54 : Int) ≤ k) = False := eq_false (by omega)
  go_enter Tryz.func30, Tryz.ntmps30
  go_wp2_with fail
  refine (rows_R _).mono ?_
  rintro e w1 ⟨b, rfl, hb0, hb1, hR, hbl⟩
  have h6 := (Six.new w _ _ _ _ _ _ _).below hbl (by simp)
  have hB : Below w.heap.size w w1 := ((Below.refl _ _).alloc (Nat.le_refl _) _).trans (hbl.mono (by simp))
  have H6 := Lib.hid h6
  obtain ⟨c0, c1, c2, c3, c4, c5⟩ := h6.cells
  obtain ⟨f0, f1, f2, f3, f4, f5⟩ := h6.free
  have r0 : w1.cell? ⟨b, k * 6, none⟩ = _ := hR k 0 _ hk rfl
  have r1 := hR k 1 _ hk rfl
  have r2 := hR k 2 _ hk rfl
  have r3 := hR k 3 _ hk rfl
  have r4 := hR k 4 _ hk rfl
  have r5 := hR k 5 _ hk rfl
  have HB := Lib.hid hB
  simp at hb0
  clear h6 hbl hR hB
  go_wp2_with fail
  have G6 : Six _ w.heap.size 65 (.string (bsl (nameB k))) (.int .i64 (majorN k : Int)) (.int .i64 (minorN k : Int)) (.string (bsl (fieldsB k))) (.string (bsl (orderB k))) (.string (bsl (kindB k))) := Joins.block_setCell (i := 5) (Joins.block_setCell (i := 4) (Joins.block_setCell (i := 3) (Joins.block_setCell (i := 2) (Joins.block_setCell (i := 1) (Joins.block_setCell (i := 0) H6.out (.string (bsl (nameB k)))) (.int .i64 (majorN k : Int))) (.int .i64 (minorN k : Int))) (.string (bsl (fieldsB k)))) (.string (bsl (orderB k)))) (.string (bsl (kindB k)))
  have GB := HB.out
  have GB := Lib.hid ((((((GB.setCell (p := ⟨w.heap.size, 0, none⟩) (Nat.le_refl _) (.string (bsl (nameB k)))).setCell (p := ⟨w.heap.size, 1, none⟩) (Nat.le_refl _) (.int .i64 (majorN k : Int))).setCell (p := ⟨w.heap.size, 2, none⟩) (Nat.le_refl _) (.int .i64 (minorN k : Int))).setCell (p := ⟨w.heap.size, 3, none⟩) (Nat.le_refl _) (.string (bsl (fieldsB k)))).setCell (p := ⟨w.heap.size, 4, none⟩) (Nat.le_refl _) (.string (bsl (orderB k)))).setCell (p := ⟨w.heap.size, 5, none⟩) (Nat.le_refl _) (.string (bsl (kindB k))))
  clear c0 c1 c2 c3 c4 c5 f0 f1 f2 f3 f4 f5
  obtain ⟨c0, c1, c2, c3, c4, c5⟩ := Six.cells G6
  clear G6
  generalize ((((((w1.setCell _ _).setCell _ _).setCell _ _).setCell _ _).setCell _ _).setCell _ _) = w2 at *
  exact bodyPost_ret (v := rowV k) (by simp [results, Tryz.results30, go_sem, c0, c1, c2, c3, c4, c5]) rfl ⟨rfl, GB.out⟩
theorem rowOf_none (op : Int) (h : op < 1 ∨ 54 ≤ op) (w : World) :
    Calls Tryz.prog 30 #[.int .i64 op] w fun e w' => e = .returned rowNone ∧ Below w.heap.size w w' := by
  go_enter Tryz.func30, Tryz.ntmps30
  go_wp2_with (go_at_call 38; (with_reducible refine (rows_any _).mono ?_); rintro e w' ⟨rfl, rfl⟩)
  all_goals
    go_returns
    exact ⟨rfl, by go_grown⟩
end Go.Proofs.YtnppegldebocmaaGreatDoor
