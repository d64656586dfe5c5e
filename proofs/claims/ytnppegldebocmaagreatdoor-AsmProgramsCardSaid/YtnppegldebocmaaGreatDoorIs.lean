/- The walks of errors.Is and of plain.Code at the program's own errors. Conditions: as each theorem states. -/
import Derived.Test.YtnppegldebocmaaGreatDoorErrs
import Derived.Lib.Hide
namespace Go.Proofs.YtnppegldebocmaaGreatDoor
open Go.RowKit Go.Extern.Stop Go.Stop Go.Extern
theorem infoE : ∃ i, Tryz.prog.info? 214 = some i ∧ i.comparable = true := by
  have h : (Tryz.prog.info? 214).map (·.comparable) = some true := by kernel_rfl
  obtain ⟨i, h1, h2⟩ := Option.map_eq_some_iff.1 h
  exact ⟨i, h1, h2⟩
theorem infoES : ∃ i, Tryz.prog.info? 216 = some i ∧ i.size ≠ 0 := by
  have h : (Tryz.prog.info? 216).map (fun i => i.size == 0) = some false := by kernel_rfl
  obtain ⟨i, h1, h2⟩ := Option.map_eq_some_iff.1 h
  exact ⟨i, h1, by simpa using h2⟩
theorem eql_same (a : Addr) (w : World) : (binOp .eql 27 (.iface 214 (.pointer (some a))) (.iface 214 (.pointer (some a)))).run Tryz.prog w = .ok (.bool true) w := by
  obtain ⟨i, hi, hc⟩ := infoE
  obtain ⟨j, hj, _⟩ := infoES
  exact run_eql_iface_ptr_same w a Tryz.underlying27 Tryz.underlying214 hi hc hj
theorem eql_other {a b : Addr} {ca cb : Array Value} {ta tb : TypeId} (w : World) (hne : a ≠ b) (ha : w.heap[a.block]? = some (.cells ca ta (0, 0))) (hb : w.heap[b.block]? = some (.cells cb tb (0, 0))) :
    (binOp .eql 27 (.iface 214 (.pointer (some a))) (.iface 214 (.pointer (some b)))).run Tryz.prog w = .ok (.bool false) w := by
  obtain ⟨i, hi, hc⟩ := infoE
  obtain ⟨j, hj, hs⟩ := infoES
  exact run_eql_iface_ptr_other w Tryz.underlying27 Tryz.underlying214 hi hc hj hs hne ha hb
theorem compE (w : World) : (ReflectliteType.method (fun t => do Rtype.noPackHeld "Comparable" t; (fun a : TypeInfo => Value.bool a.comparable) <$> typeInfo t) #[.agg #[.pointer (some ⟨19, 214, none⟩)]]).run Tryz.prog w = .ok (.bool true) w := by kernel_rfl
set_option maxRecDepth 100000 in
theorem is_same (a : Addr) (w : World) :
    Calls Tryz.prog 69 #[.iface 214 (.pointer (some a)), .iface 214 (.pointer (some a))] w fun ev w' => ev = .returned (.bool true) ∧ w = w' := by
  have he := eql_same a
  have oE := typeOfE
  have hTypeOf := @run_callFunc_extern Tryz.prog 98 _ (ReflectliteType.typeOf) Tryz.func98 (by kernel_rfl) (by kernel_rfl) (by kernel_rfl) (by kernel_rfl)
  have hComp := @run_callFunc_extern Tryz.prog 196 _ (ReflectliteType.method (fun t => do Rtype.noPackHeld "Comparable" t; pure (.bool (← typeInfo t).comparable))) Tryz.func196 (by kernel_rfl) (by kernel_rfl) (by kernel_rfl) (by kernel_rfl)
  have cE := compE
  have nI := noIs
  have nU := noUnwrap
  have nUs := noUnwraps
  go_enter Tryz.func69, Tryz.ntmps69
  go_wp2
  refine wp_loop_rounds 1 ?_
  rw [rounds_succ]
  go_wp2
  go_ret
  exact ⟨rfl, rfl⟩
set_option maxRecDepth 100000 in
theorem is_other (a b : Addr) (ca cb : Array Value) (ta tb : TypeId) (w : World) (hne : a ≠ b) (ha : w.heap[a.block]? = some (.cells ca ta (0, 0))) (hb : w.heap[b.block]? = some (.cells cb tb (0, 0))) :
    Calls Tryz.prog 69 #[.iface 214 (.pointer (some a)), .iface 214 (.pointer (some b))] w fun ev w' => ev = .returned (.bool false) ∧ w = w' := by
  have he := eql_other w hne ha hb
  clear hne ha hb
  have oE := typeOfE
  have hTypeOf := @run_callFunc_extern Tryz.prog 98 _ (ReflectliteType.typeOf) Tryz.func98 (by kernel_rfl) (by kernel_rfl) (by kernel_rfl) (by kernel_rfl)
  have hComp := @run_callFunc_extern Tryz.prog 196 _ (ReflectliteType.method (fun t => do Rtype.noPackHeld "Comparable" t; pure (.bool (← typeInfo t).comparable))) Tryz.func196 (by kernel_rfl) (by kernel_rfl) (by kernel_rfl) (by kernel_rfl)
  have cE := compE
  have nI := noIs
  have nU := noUnwrap
  have nUs := noUnwraps
  go_enter Tryz.func69, Tryz.ntmps69
  go_wp2
  refine wp_loop_rounds 1 ?_
  rw [rounds_succ]
  go_wp2
  go_ret
  exact ⟨rfl, rfl⟩
/-- The ten errors' variables hold ten errors apart from each other; the library's variable its handle. -/
structure Sents (w : World) (ad : Nat → Addr) : Prop where
  c0 : w.cell? ⟨1, 0, none⟩ = some (.iface 214 (.pointer (some (ad 0))))
  c1 : w.cell? ⟨5, 0, none⟩ = some (.iface 214 (.pointer (some (ad 1))))
  c2 : w.cell? ⟨6, 0, none⟩ = some (.iface 214 (.pointer (some (ad 2))))
  c3 : w.cell? ⟨4, 0, none⟩ = some (.iface 214 (.pointer (some (ad 3))))
  c4 : w.cell? ⟨0, 0, none⟩ = some (.iface 214 (.pointer (some (ad 4))))
  c5 : w.cell? ⟨7, 0, none⟩ = some (.iface 214 (.pointer (some (ad 5))))
  c6 : w.cell? ⟨8, 0, none⟩ = some (.iface 214 (.pointer (some (ad 6))))
  c7 : w.cell? ⟨2, 0, none⟩ = some (.iface 214 (.pointer (some (ad 7))))
  c8 : w.cell? ⟨3, 0, none⟩ = some (.iface 214 (.pointer (some (ad 8))))
  c9 : w.cell? ⟨9, 0, none⟩ = some (.iface 214 (.pointer (some (ad 9))))
  rows : ∀ k : Nat, k < 10 → ∃ ca ta, w.heap[(ad k).block]? = some (.cells ca ta (0, 0))
  apart : ∀ i j : Nat, i < 10 → j < 10 → i ≠ j → ad i ≠ ad j
  et : w.cell? ⟨10, 0, none⟩ = some (.iface 167 (.agg #[.pointer (some ⟨19, 27, none⟩)]))
theorem Sents.below {w w' : World} {ad : Nat → Addr} (h : Sents w ad) (hb : Below w.heap.size w w') : Sents w' ad where
  c0 := (hb.cell (World.block_lt_of_cell? w _ h.c0)).trans h.c0
  c1 := (hb.cell (World.block_lt_of_cell? w _ h.c1)).trans h.c1
  c2 := (hb.cell (World.block_lt_of_cell? w _ h.c2)).trans h.c2
  c3 := (hb.cell (World.block_lt_of_cell? w _ h.c3)).trans h.c3
  c4 := (hb.cell (World.block_lt_of_cell? w _ h.c4)).trans h.c4
  c5 := (hb.cell (World.block_lt_of_cell? w _ h.c5)).trans h.c5
  c6 := (hb.cell (World.block_lt_of_cell? w _ h.c6)).trans h.c6
  c7 := (hb.cell (World.block_lt_of_cell? w _ h.c7)).trans h.c7
  c8 := (hb.cell (World.block_lt_of_cell? w _ h.c8)).trans h.c8
  c9 := (hb.cell (World.block_lt_of_cell? w _ h.c9)).trans h.c9
  rows := fun k hk => by
    obtain ⟨ca, ta, e⟩ := h.rows k hk
    exact ⟨ca, ta, (hb.block _ (Array.getElem?_eq_some_iff.1 e).1).trans e⟩
  apart := h.apart
  et := (hb.cell (World.block_lt_of_cell? w _ h.et)).trans h.et
theorem code_nil (w : World) : Calls Tryz.prog 33 #[.nilIface] w fun ev w' => ev = .returned (.tuple #[.int .i64 0, .int .i64 (-1)]) ∧ w = w' := by
  go_enter Tryz.func33, Tryz.ntmps33
  go_wp2
  go_ret2
  exact ⟨rfl, rfl⟩
theorem ten_cells (w : World) (ad : Nat → Addr) : ∀ i : Nat, i < 10 → (w.alloc (.cells #[.iface 214 (.pointer (some (ad 0))), .iface 214 (.pointer (some (ad 1))), .iface 214 (.pointer (some (ad 2))), .iface 214 (.pointer (some (ad 3))), .iface 214 (.pointer (some (ad 4))), .iface 214 (.pointer (some (ad 5))), .iface 214 (.pointer (some (ad 6))), .iface 214 (.pointer (some (ad 7))), .iface 214 (.pointer (some (ad 8))), .iface 214 (.pointer (some (ad 9)))] 27)).cell? ⟨w.heap.size, i, none⟩ = some (.iface 214 (.pointer (some (ad i)))) := by
  intro i hi
  have hc : i = 0 ∨ i = 1 ∨ i = 2 ∨ i = 3 ∨ i = 4 ∨ i = 5 ∨ i = 6 ∨ i = 7 ∨ i = 8 ∨ i = 9 := by omega
  rcases hc with rfl | rfl | rfl | rfl | rfl | rfl | rfl | rfl | rfl | rfl <;> simp [go_sem]
set_option maxHeartbeats 1000000 in
theorem code_sent (k : Nat) (hk : k < 10) (ad : Nat → Addr) (w : World) (hS : Sents w ad) :
    Calls Tryz.prog 33 #[.iface 214 (.pointer (some (ad k)))] w fun ev w' => ev = .returned (.tuple #[.int .i64 ((k : Int) + 1), .int .i64 (-1)]) ∧ Below w.heap.size w w' := by
  go_enter Tryz.func33, Tryz.ntmps33
  go_wp2_with fail
  have hA := hS.below ((Below.refl _ _).alloc (Nat.le_refl _) (.cells #[.pointer none] 93))
  refine (as_miss _ _ _ hA.et).mono ?_
  rintro e w1 ⟨rfl, hb1⟩
  have hS1 := hA.below hb1
  have hB1 : Below w.heap.size w w1 := ((Below.refl _ _).alloc (Nat.le_refl _) _).trans (hb1.mono (by simp))
  clear hA hS hb1
  have hS1' := hS1
  obtain ⟨c0, c1, c2, c3, c4, c5, c6, c7, c8, c9, _, _, _⟩ := hS1'
  go_wp2_with fail
  have hS2 := hS1.below ((Below.refl _ _).alloc (Nat.le_refl _) (.cells #[.iface 214 (.pointer (some (ad 0))), .iface 214 (.pointer (some (ad 1))), .iface 214 (.pointer (some (ad 2))), .iface 214 (.pointer (some (ad 3))), .iface 214 (.pointer (some (ad 4))), .iface 214 (.pointer (some (ad 5))), .iface 214 (.pointer (some (ad 6))), .iface 214 (.pointer (some (ad 7))), .iface 214 (.pointer (some (ad 8))), .iface 214 (.pointer (some (ad 9)))] 27))
  have hB2 : Below w.heap.size w (w1.alloc (.cells #[.iface 214 (.pointer (some (ad 0))), .iface 214 (.pointer (some (ad 1))), .iface 214 (.pointer (some (ad 2))), .iface 214 (.pointer (some (ad 3))), .iface 214 (.pointer (some (ad 4))), .iface 214 (.pointer (some (ad 5))), .iface 214 (.pointer (some (ad 6))), .iface 214 (.pointer (some (ad 7))), .iface 214 (.pointer (some (ad 8))), .iface 214 (.pointer (some (ad 9)))] 27)) := hB1.alloc hB1.size _
  have hcell := ten_cells w1 ad
  generalize (w1.alloc (.cells #[.iface 214 (.pointer (some (ad 0))), .iface 214 (.pointer (some (ad 1))), .iface 214 (.pointer (some (ad 2))), .iface 214 (.pointer (some (ad 3))), .iface 214 (.pointer (some (ad 4))), .iface 214 (.pointer (some (ad 5))), .iface 214 (.pointer (some (ad 6))), .iface 214 (.pointer (some (ad 7))), .iface 214 (.pointer (some (ad 8))), .iface 214 (.pointer (some (ad 9)))] 27)) = w2 at *
  generalize w1.heap.size = bs at *
  have HC := Lib.hid hcell
  clear hcell c0 c1 c2 c3 c4 c5 c6 c7 c8 c9 hS1 hB1
  go_loop [3, 28] (fun at3 v => ∃ i : Nat, i ≤ k ∧ v = .int .i64 (i : Int) ∧ at3 = .int .i64 (-1)) (fun _ v => k - (intOf v).toNat)
  case atStart => exact ⟨0, Nat.zero_le _, rfl, rfl⟩
  case round =>
    obtain ⟨i, hi, rfl, rfl⟩ := hrel
    have hci := HC.out i (by omega)
    have hi10 : (i : Int) < 10 := by omega
    by_cases hik : i = k
    · subst hik
      go_wp2_with (go_at_call 69; refine (is_same (ad i) _).mono ?_; rintro e w' ⟨rfl, rfl⟩)
      go_ret2
      exact ⟨rfl, hB2⟩
    · obtain ⟨ca, ta, hra⟩ := hS2.rows k hk
      obtain ⟨cb, tb, hrb⟩ := hS2.rows i (by omega)
      have hne : ad k ≠ ad i := hS2.apart k i hk (by omega) (fun e => hik e.symm)
      have HNE := Lib.hid hne
      have HRA := Lib.hid hra
      have HRB := Lib.hid hrb
      clear hne hra hrb
      go_wp2_with (go_at_call 69; refine (is_other (ad k) (ad i) ca cb ta tb _ HNE.out HRA.out HRB.out).mono ?_; rintro e w' ⟨rfl, rfl⟩)
      go_round
      case rel => exact ⟨i + 1, by omega, by go_num, rfl⟩
      case measure => simp [intOf]; omega
end Go.Proofs.YtnppegldebocmaaGreatDoor
