/- The document's rows as cells: what stands where. No program in sight. The walk of the document's rows: the table. The walks of the document's RowOf and KindOf. Conditions: as each theorem states. -/
import Derived.Test.YtadoaldnjnkhgaaGreatDoorQ14
import Derived.Handy
import Derived.Great.Walk
import Derived.Test.YtadoaldnjnkhgaaGreatDoorQ04
import Derived.Deep.MidRow
set_option linter.unusedVariables false
set_option linter.unusedSimpArgs false
namespace Go.Proofs.YtadoaldnjnkhgaaGreatDoor
open Go.RowKit
def rowCells (k : Nat) : List Value := [.string (bsl (nameB k)), .int .i64 (majorN k : Int), .int .i64 (minorN k : Int), .string (bsl (fieldsB k)), .string (bsl (orderB k)), .string (bsl (kindB k))]
def rowsCells : Array Value := ((List.range 54).flatMap rowCells).toArray
theorem rows_size : rowsCells.size = 324 := by kernel_rfl
set_option maxRecDepth 100000 in
theorem rows_ext_all : (List.range 54).map (fun k => rowsCells.extract (6 * k) (6 * k + 6)) = (List.range 54).map (fun k => (rowCells k).toArray) := by kernel_rfl
theorem rows_ext (k : Nat) (hk : k < 54) : rowsCells.extract (6 * k) (6 * k + 6) = (rowCells k).toArray := by
  have h := congrArg (fun l => l[k]?) rows_ext_all
  simpa [hk] using h
theorem rows_cell (k j : Nat) (hk : k < 54) (hj : j < 6) : rowsCells[6 * k + j]? = (rowCells k)[j]? := by
  have h := rows_ext k hk
  have h2 := congrArg (fun a : Array Value => a[j]?) h
  simp only [List.getElem?_toArray] at h2
  rw [← h2, Array.getElem?_extract]
  have : j < min (6 * k + 6) rowsCells.size - 6 * k := by rw [rows_size]; omega
  rw [if_pos this]
end Go.Proofs.YtadoaldnjnkhgaaGreatDoor
namespace Go.Proofs.YtadoaldnjnkhgaaGreatDoor
open Go.RowKit
theorem wp_buildSliceTo {P : Program} {o : Oper} {a : Act} {w : World} {K : Act → World → Prop} {Q : Exit → Act → World → Prop} (t e : TypeId) (len : Nat) (parts : Array (Nat × Operand)) (ho : o.op = .buildSlice t len parts)
    (hu : P.underlying t = some (.slice e)) (cells : Array Value) (hf : P.builtSlice e len (parts.map fun (i, x) => (i, a.eval x)).toList = some cells)
    (h : K (a.put o.dst (.slice (some ⟨w.heap.size, 0, none⟩) len len)) (w.alloc (.cells cells e))) : o.wp P a w K Q := by
  unfold Program.builtSlice at hf
  cases hie : P.info? e with
  | none => simp [hie] at hf
  | some ie =>
    simp only [hie] at hf
    cases hz : ie.zero with
    | none => simp [hz] at hf
    | some z =>
      simp only [hz] at hf
      by_cases hc : len * ie.size > 2 ^ 24 ∨ len * ie.size = 0
      · simp [hc] at hf
      · rw [if_neg hc] at hf
        exact wp_buildSlice t e len parts ho cells ie z hu hie hz (fun h' => hc (Or.inl h')) (fun h' => hc (Or.inr h')) hf h
set_option maxHeartbeats 16000000 in
set_option maxRecDepth 100000 in
theorem rows_any (w : World) : Calls Tryz.prog 84 #[] w fun e w' => e = .returned (.slice (some ⟨w.heap.size, 0, none⟩) 54 54) ∧ w' = w.alloc (.cells rowsCells 123) := by
  go_enter Tryz.func84, Tryz.ntmps84
  go_wp2
  refine wp_buildSliceTo 165 123 54 _ rfl Tryz.underlying165 rowsCells (by kernel_rfl) ?_
  go_wp2
  go_ret
  exact ⟨rfl, rfl⟩
end Go.Proofs.YtadoaldnjnkhgaaGreatDoor
namespace Go.Proofs.YtadoaldnjnkhgaaGreatDoor
open Go.RowKit
abbrev rowNone : Value := .agg #[.string ⟨#[]⟩, .int .i64 0, .int .i64 0, .string ⟨#[]⟩, .string ⟨#[]⟩, .string ⟨#[]⟩]
def RowsAt (w : World) (b : Nat) : Prop := ∀ k j v, k < 54 → (rowCells k)[j]? = some v → w.cell? ⟨b, k * 6 + j, none⟩ = some v
theorem rowsAt_new (w : World) (t : TypeId) : RowsAt (w.alloc (.cells rowsCells t)) w.heap.size := by
  intro k j v hk hv
  have hj : j < 6 := by
    have := (List.getElem?_eq_some_iff.1 hv).1
    simpa [rowCells] using this
  have h := rows_cell k j hk hj
  rw [Nat.mul_comm 6 k] at h
  rw [hv] at h
  have hh : (w.alloc (.cells rowsCells t)).heap[w.heap.size]? = some (.cells rowsCells t (0, 0)) := heap_alloc_new w _
  unfold World.cell?
  rw [hh]
  exact h
theorem rows_R (w : World) : Calls Tryz.prog 84 #[] w fun e w' => ∃ b, e = .returned (.slice (some ⟨b, 0, none⟩) 54 54) ∧ w.heap.size ≤ b ∧ b < w'.heap.size ∧ RowsAt w' b ∧ Below w.heap.size w w' := by
  refine (rows_any w).mono ?_
  rintro e w' ⟨rfl, rfl⟩
  exact ⟨_, rfl, Nat.le_refl _, by simp, rowsAt_new w _, by go_grown⟩
def Six (w : World) (b : Nat) (t : TypeId) (a0 a1 a2 a3 a4 a5 : Value) : Prop := w.heap[b]? = some (.cells #[a0, a1, a2, a3, a4, a5] t (0, 0))
theorem Six.cells {w : World} {b : Nat} {t : TypeId} {a0 a1 a2 a3 a4 a5 : Value} (h : Six w b t a0 a1 a2 a3 a4 a5) :
    w.cell? ⟨b, 0, none⟩ = some a0 ∧ w.cell? ⟨b, 1, none⟩ = some a1 ∧ w.cell? ⟨b, 2, none⟩ = some a2 ∧ w.cell? ⟨b, 3, none⟩ = some a3 ∧ w.cell? ⟨b, 4, none⟩ = some a4 ∧ w.cell? ⟨b, 5, none⟩ = some a5 := by
  unfold Six at h
  refine ⟨?_, ?_, ?_, ?_, ?_, ?_⟩ <;> simp [World.cell?, h]
theorem Six.free {w : World} {b : Nat} {t : TypeId} {a0 a1 a2 a3 a4 a5 : Value} (h : Six w b t a0 a1 a2 a3 a4 a5) :
    w.frozen? ⟨b, 0, none⟩ = false ∧ w.frozen? ⟨b, 1, none⟩ = false ∧ w.frozen? ⟨b, 2, none⟩ = false ∧ w.frozen? ⟨b, 3, none⟩ = false ∧ w.frozen? ⟨b, 4, none⟩ = false ∧ w.frozen? ⟨b, 5, none⟩ = false := by
  unfold Six at h
  refine ⟨?_, ?_, ?_, ?_, ?_, ?_⟩ <;> simp [World.frozen?, h]
theorem Six.new (w : World) (a0 a1 a2 a3 a4 a5 : Value) (t : TypeId) : Six (w.alloc (.cells #[a0, a1, a2, a3, a4, a5] t)) w.heap.size t a0 a1 a2 a3 a4 a5 := heap_alloc_new w _
theorem Six.below {w w' : World} {b B : Nat} {t : TypeId} {a0 a1 a2 a3 a4 a5 : Value} (h : Six w b t a0 a1 a2 a3 a4 a5) (hb : Below B w w') (hB : b < B) : Six w' b t a0 a1 a2 a3 a4 a5 := (hb.block b hB).trans h
theorem rowOf_at (k : Nat) (h1 : 1 ≤ k) (hk : k < 54) (w : World) :
    Calls Tryz.prog 50 #[.int .i64 (k : Int)] w fun e w' => e = .returned (rowV k) ∧ Below w.heap.size w w' := by
  have ha : ((k : Int) < 1) = False := eq_false (by omega)
  have hb : ((54 : Int) ≤ k) = False := eq_false (by omega)
  go_enter Tryz.func50, Tryz.ntmps50
  go_wp2_with fail
  refine (rows_R _).mono ?_
  rintro e w1 ⟨b, rfl, hb0, hb1, hR, hbl⟩
  have h6 := (Six.new w _ _ _ _ _ _ _).below hbl (by simp)
  have hB : Below w.heap.size w w1 := ((Below.refl _ _).alloc (Nat.le_refl _) _).trans (hbl.mono (by simp))
  have H6 := Lib.hid h6
  obtain ⟨c0, c1, c2, c3, c4, c5⟩ := h6.cells
  obtain ⟨f0, f1, f2, f3, f4, f5⟩ := h6.free
  have r0 : w1.cell? ⟨b, k * 6, none⟩ = _ := hR k 0 _ hk rfl
  have r1 := hR k 1 _ hk rfl
  have r2 := hR k 2 _ hk rfl
  have r3 := hR k 3 _ hk rfl
  have r4 := hR k 4 _ hk rfl
  have r5 := hR k 5 _ hk rfl
  have HB := Lib.hid hB
  simp at hb0
  clear h6 hbl hR hB
  go_wp2_with fail
  have G6 : Six _ w.heap.size 123 (.string (bsl (nameB k))) (.int .i64 (majorN k : Int)) (.int .i64 (minorN k : Int)) (.string (bsl (fieldsB k))) (.string (bsl (orderB k))) (.string (bsl (kindB k))) := Joins.block_setCell (i := 5) (Joins.block_setCell (i := 4) (Joins.block_setCell (i := 3) (Joins.block_setCell (i := 2) (Joins.block_setCell (i := 1) (Joins.block_setCell (i := 0) H6.out (.string (bsl (nameB k)))) (.int .i64 (majorN k : Int))) (.int .i64 (minorN k : Int))) (.string (bsl (fieldsB k)))) (.string (bsl (orderB k)))) (.string (bsl (kindB k)))
  have GB := HB.out
  have GB := Lib.hid ((((((GB.setCell (p := ⟨w.heap.size, 0, none⟩) (Nat.le_refl _) (.string (bsl (nameB k)))).setCell (p := ⟨w.heap.size, 1, none⟩) (Nat.le_refl _) (.int .i64 (majorN k : Int))).setCell (p := ⟨w.heap.size, 2, none⟩) (Nat.le_refl _) (.int .i64 (minorN k : Int))).setCell (p := ⟨w.heap.size, 3, none⟩) (Nat.le_refl _) (.string (bsl (fieldsB k)))).setCell (p := ⟨w.heap.size, 4, none⟩) (Nat.le_refl _) (.string (bsl (orderB k)))).setCell (p := ⟨w.heap.size, 5, none⟩) (Nat.le_refl _) (.string (bsl (kindB k))))
  clear c0 c1 c2 c3 c4 c5 f0 f1 f2 f3 f4 f5
  obtain ⟨c0, c1, c2, c3, c4, c5⟩ := Six.cells G6
  clear G6
  generalize ((((((w1.setCell _ _).setCell _ _).setCell _ _).setCell _ _).setCell _ _).setCell _ _) = w2 at *
  exact bodyPost_ret (v := rowV k) (by simp [results, Tryz.results50, go_sem, c0, c1, c2, c3, c4, c5]) rfl ⟨rfl, GB.out⟩
theorem rowOf_none (op : Int) (h : op < 1 ∨ 54 ≤ op) (w : World) :
    Calls Tryz.prog 50 #[.int .i64 op] w fun e w' => e = .returned rowNone ∧ Below w.heap.size w w' := by
  go_enter Tryz.func50, Tryz.ntmps50
  go_wp2_with (go_at_call 84; (with_reducible refine (rows_any _).mono ?_); rintro e w' ⟨rfl, rfl⟩)
  all_goals
    go_returns
    exact ⟨rfl, by go_grown⟩
end Go.Proofs.YtadoaldnjnkhgaaGreatDoor
