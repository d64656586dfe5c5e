/- The walks of code.lay: a field's value goes into its cell; and small facts on a block of five cells. Conditions: as each theorem states. -/
import Derived.Test.YtnppegldebocmaaGreatDoorDecP
import Derived.Handy
import Derived.Lib.SmallJoins
namespace Go.Proofs.YtnppegldebocmaaGreatDoor
open Go.RowKit
/-- Block b holds these five cells, none of them frozen. -/
def Five (w : World) (b : Nat) (t : TypeId) (a0 a1 a2 a3 a4 : Value) : Prop := w.heap[b]? = some (.cells #[a0, a1, a2, a3, a4] t (0, 0))
theorem Five.cells {w : World} {b : Nat} {t : TypeId} {a0 a1 a2 a3 a4 : Value} (h : Five w b t a0 a1 a2 a3 a4) :
    w.cell? ⟨b, 0, none⟩ = some a0 ∧ w.cell? ⟨b, 1, none⟩ = some a1 ∧ w.cell? ⟨b, 2, none⟩ = some a2 ∧ w.cell? ⟨b, 3, none⟩ = some a3 ∧ w.cell? ⟨b, 4, none⟩ = some a4 := by
  unfold Five at h
  refine ⟨?_, ?_, ?_, ?_, ?_⟩ <;> simp [World.cell?, h]
theorem Five.free {w : World} {b : Nat} {t : TypeId} {a0 a1 a2 a3 a4 : Value} (h : Five w b t a0 a1 a2 a3 a4) :
    w.frozen? ⟨b, 0, none⟩ = false ∧ w.frozen? ⟨b, 1, none⟩ = false ∧ w.frozen? ⟨b, 2, none⟩ = false ∧ w.frozen? ⟨b, 3, none⟩ = false ∧ w.frozen? ⟨b, 4, none⟩ = false := by
  unfold Five at h
  refine ⟨?_, ?_, ?_, ?_, ?_⟩ <;> simp [World.frozen?, h]
theorem Five.lt {w : World} {b : Nat} {t : TypeId} {a0 a1 a2 a3 a4 : Value} (h : Five w b t a0 a1 a2 a3 a4) : b < w.heap.size := by
  unfold Five at h
  exact (Array.getElem?_eq_some_iff.1 h).1
theorem Five.set1 {w : World} {b : Nat} {t : TypeId} {a0 a1 a2 a3 a4 : Value} (h : Five w b t a0 a1 a2 a3 a4) (v : Value) : Five (w.setCell ⟨b, 1, none⟩ v) b t a0 v a2 a3 a4 := Joins.block_setCell h v
theorem Five.set2 {w : World} {b : Nat} {t : TypeId} {a0 a1 a2 a3 a4 : Value} (h : Five w b t a0 a1 a2 a3 a4) (v : Value) : Five (w.setCell ⟨b, 2, none⟩ v) b t a0 a1 v a3 a4 := Joins.block_setCell h v
theorem Five.set3 {w : World} {b : Nat} {t : TypeId} {a0 a1 a2 a3 a4 : Value} (h : Five w b t a0 a1 a2 a3 a4) (v : Value) : Five (w.setCell ⟨b, 3, none⟩ v) b t a0 a1 a2 v a4 := Joins.block_setCell h v
theorem Five.set4 {w : World} {b : Nat} {t : TypeId} {a0 a1 a2 a3 a4 : Value} (h : Five w b t a0 a1 a2 a3 a4) (v : Value) : Five (w.setCell ⟨b, 4, none⟩ v) b t a0 a1 a2 a3 v := Joins.block_setCell h v
theorem Five.of_block {w w' : World} {b : Nat} {t : TypeId} {a0 a1 a2 a3 a4 : Value} (h : Five w b t a0 a1 a2 a3 a4) (e : w'.heap[b]? = w.heap[b]?) : Five w' b t a0 a1 a2 a3 a4 := e.trans h
theorem Five.below {w w' : World} {b B : Nat} {t : TypeId} {a0 a1 a2 a3 a4 : Value} (h : Five w b t a0 a1 a2 a3 a4) (hb : Below B w w') (hB : b < B) : Five w' b t a0 a1 a2 a3 a4 := h.of_block (hb.block b hB)
theorem Five.new (w : World) (a0 a1 a2 a3 a4 : Value) (t : TypeId) : Five (w.alloc (.cells #[a0, a1, a2, a3, a4] t)) w.heap.size t a0 a1 a2 a3 a4 := heap_alloc_new w _
theorem lay_83 (b : Nat) (v : Int) (h0 : 0 ≤ v) (h1 : v < 4294967296) (a0 a1 a2 a3 a4 : Value) (w : World) (hf : Five w b 24 a0 a1 a2 a3 a4) :
    Calls Tryz.prog 46 #[.pointer (some ⟨b, 0, none⟩), .int .i32 83, .int .u32 v] w fun e w' => e = .returned (.tuple #[]) ∧ w.setCell ⟨b, 1, none⟩ (.int .i64 v) = w' := by
  obtain ⟨c0, c1, c2, c3, c4⟩ := hf.cells
  obtain ⟨f0, f1, f2, f3, f4⟩ := hf.free
  clear hf
  go_enter Tryz.func46, Tryz.ntmps46
  go_wp2
  go_end0
  exact ⟨rfl, rfl⟩
theorem lay_84 (b : Nat) (v : Int) (h0 : 0 ≤ v) (h1 : v < 4294967296) (a0 a1 a2 a3 a4 : Value) (w : World) (hf : Five w b 24 a0 a1 a2 a3 a4) :
    Calls Tryz.prog 46 #[.pointer (some ⟨b, 0, none⟩), .int .i32 84, .int .u32 v] w fun e w' => e = .returned (.tuple #[]) ∧ w.setCell ⟨b, 2, none⟩ (.int .i64 v) = w' := by
  obtain ⟨c0, c1, c2, c3, c4⟩ := hf.cells
  obtain ⟨f0, f1, f2, f3, f4⟩ := hf.free
  clear hf
  go_enter Tryz.func46, Tryz.ntmps46
  go_wp2
  go_end0
  exact ⟨rfl, rfl⟩
theorem lay_68 (b : Nat) (v : Int) (h0 : 0 ≤ v) (h1 : v < 4294967296) (a0 a1 a2 a3 a4 : Value) (w : World) (hf : Five w b 24 a0 a1 a2 a3 a4) :
    Calls Tryz.prog 46 #[.pointer (some ⟨b, 0, none⟩), .int .i32 68, .int .u32 v] w fun e w' => e = .returned (.tuple #[]) ∧ w.setCell ⟨b, 3, none⟩ (.int .i64 v) = w' := by
  obtain ⟨c0, c1, c2, c3, c4⟩ := hf.cells
  obtain ⟨f0, f1, f2, f3, f4⟩ := hf.free
  clear hf
  go_enter Tryz.func46, Tryz.ntmps46
  go_wp2
  go_end0
  exact ⟨rfl, rfl⟩
theorem lay_imm (b : Nat) (c v : Int) (hc : 97 ≤ c) (a0 a1 a2 a3 a4 : Value) (w : World) (hf : Five w b 24 a0 a1 a2 a3 a4) :
    Calls Tryz.prog 46 #[.pointer (some ⟨b, 0, none⟩), .int .i32 c, .int .u32 v] w fun e w' => e = .returned (.tuple #[]) ∧ w.setCell ⟨b, 4, none⟩ (.int .u32 v) = w' := by
  obtain ⟨c0, c1, c2, c3, c4⟩ := hf.cells
  obtain ⟨f0, f1, f2, f3, f4⟩ := hf.free
  clear hf
  go_enter Tryz.func46, Tryz.ntmps46
  go_wp2
  go_end0
  exact ⟨rfl, rfl⟩
theorem Five.iterAt {w : World} {b k : Nat} {t : TypeId} {a0 a1 a2 a3 a4 : Value} (h : Five w b t a0 a1 a2 a3 a4) (hk : b ≠ k) (s : ByteArray) (p : Nat) : Five (w.iterAt k s p) b t a0 a1 a2 a3 a4 := h.of_block (Go.Lib.iterAt_other w k b s p hk)
theorem iter_setCell {w : World} {k : Nat} {o : Obj} (h : w.heap[k]? = some o) (a : Addr) (hk : k ≠ a.block) (v : Value) : (w.setCell a v).heap[k]? = some o := (Below.heap_setCell w a v k hk).trans h
theorem iterPos_of {w : World} {k : Nat} {s : ByteArray} {p : Nat} (h : w.heap[k]? = some (.stringIter s p)) : w.iterPos k = p := by simp [World.iterPos, h]
theorem iter_new (w : World) (s : ByteArray) (p k : Nat) (h : k = w.heap.size) : Hid ((w.iter s p).heap[k]? = some (.stringIter s p)) := by
  subst h; exact World.iter_heap w s p
theorem Five.set0 {w : World} {b : Nat} {t : TypeId} {a0 a1 a2 a3 a4 : Value} (h : Five w b t a0 a1 a2 a3 a4) (v : Value) : Five (w.setCell ⟨b, 0, none⟩ v) b t v a1 a2 a3 a4 := Joins.block_setCell h v
/-- The world with five cells of a block written. -/
abbrev fill5 (w : World) (b : Nat) (v0 v1 v2 v3 v4 : Value) : World := ((((w.setCell ⟨b, 0, none⟩ v0).setCell ⟨b, 1, none⟩ v1).setCell ⟨b, 2, none⟩ v2).setCell ⟨b, 3, none⟩ v3).setCell ⟨b, 4, none⟩ v4
theorem Five.fill {w : World} {b : Nat} {t : TypeId} {a0 a1 a2 a3 a4 : Value} (h : Five w b t a0 a1 a2 a3 a4) (v0 v1 v2 v3 v4 : Value) : Five (fill5 w b v0 v1 v2 v3 v4) b t v0 v1 v2 v3 v4 :=
  ((((h.set0 v0).set1 v1).set2 v2).set3 v3).set4 v4
theorem below_fill {B : Nat} {a w : World} (h : Below B a w) {b : Nat} (hb : B ≤ b) (v0 v1 v2 v3 v4 : Value) : Below B a (fill5 w b v0 v1 v2 v3 v4) :=
  ((((h.setCell (p := ⟨b, 0, none⟩) hb v0).setCell (p := ⟨b, 1, none⟩) hb v1).setCell (p := ⟨b, 2, none⟩) hb v2).setCell (p := ⟨b, 3, none⟩) hb v3).setCell (p := ⟨b, 4, none⟩) hb v4
end Go.Proofs.YtnppegldebocmaaGreatDoor
