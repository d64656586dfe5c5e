/- Small facts on texts that are ranged over: the next letter is told, where the text is of ASCII letters. Conditions: as each theorem states. -/
import Derived.WalkKit
import Derived.Test.YtnppegldebocmaaGreatDoorTab
import Derived.Lib.OthersKept
namespace Go.Proofs.YtnppegldebocmaaGreatDoor
open Go.Lib
open Go.RowKit
theorem bsl_size (l : List UInt8) : (bsl l).size = l.length := by simp [bsl, ByteArray.size]
theorem bsl_get (l : List UInt8) (j : Nat) (h : j < (bsl l).size) : (bsl l)[j]'h = l[j]'(by rw [bsl_size] at h; exact h) := by
  have h' : j < l.toArray.size := h
  exact List.getElem_toArray h'
theorem next_lit {P : Program} (w : World) (l : List UInt8) (j : Nat) (ty : TypeId) (c : UInt8) (z : Int) (hc : l[j]? = some c) (hz : (c.toNat : Int) = z) (ha : c.toNat < 128) :
    (Instr.next (.pointer (some ⟨w.heap.size, 0, none⟩)) true ty).run P (w.iter (bsl l) j) = .ok (.tuple #[.bool true, .int .i64 j, .int .i32 z]) (w.iter (bsl l) (j + 1)) := by
  have hj : j < l.length := (List.getElem?_eq_some_iff.1 hc).1
  have he : l[j] = c := (List.getElem?_eq_some_iff.1 hc).2
  have hs : j < (bsl l).size := by rw [bsl_size]; exact hj
  have hg : (bsl l)[j]'hs = c := by rw [bsl_get]; exact he
  rw [run_next_ascii w (bsl l) j ty hs (by rw [hg]; exact ha), hg, hz]
theorem next_fin {P : Program} (w : World) (l : List UInt8) (j : Nat) (ty : TypeId) (h : ¬ j < l.length) :
    (Instr.next (.pointer (some ⟨w.heap.size, 0, none⟩)) true ty).run P (w.iter (bsl l) j) = .ok (.tuple #[.bool false]) (w.iter (bsl l) j) :=
  run_next_end w (bsl l) j ty (by rw [bsl_size]; exact h)
theorem next_lit_k {P : Program} (w : World) (k : Nat) (hk : k = w.heap.size) (l : List UInt8) (j : Nat) (ty : TypeId) (c : UInt8) (z : Int) (hc : l[j]? = some c) (hz : (c.toNat : Int) = z) (ha : c.toNat < 128) :
    (Instr.next (.pointer (some ⟨k, 0, none⟩)) true ty).run P (w.iter (bsl l) j) = .ok (.tuple #[.bool true, .int .i64 j, .int .i32 z]) (w.iter (bsl l) (j + 1)) := by
  subst hk; exact next_lit w l j ty c z hc hz ha
theorem next_fin_k {P : Program} (w : World) (k : Nat) (hk : k = w.heap.size) (l : List UInt8) (j : Nat) (ty : TypeId) (h : ¬ j < l.length) :
    (Instr.next (.pointer (some ⟨k, 0, none⟩)) true ty).run P (w.iter (bsl l) j) = .ok (.tuple #[.bool false]) (w.iter (bsl l) j) := by
  subst hk; exact next_fin w l j ty h
theorem iterPos_k (w : World) (k : Nat) (hk : k = w.heap.size) (s : ByteArray) (p : Nat) : (w.iter s p).iterPos k = p := by
  subst hk; exact World.iterPos_iter w s p
theorem next_lit_at {P : Program} (w : World) (k : Nat) (l : List UInt8) (j : Nat) (ty : TypeId) (c : UInt8) (z : Int) (hk : w.heap[k]? = some (.stringIter (bsl l) j)) (hc : l[j]? = some c) (hz : (c.toNat : Int) = z) (ha : c.toNat < 128) :
    (Instr.next (.pointer (some ⟨k, 0, none⟩)) true ty).run P w = .ok (.tuple #[.bool true, .int .i64 j, .int .i32 z]) (w.iterAt k (bsl l) (j + 1)) := by
  have hj : j < l.length := (List.getElem?_eq_some_iff.1 hc).1
  have he : l[j] = c := (List.getElem?_eq_some_iff.1 hc).2
  have hs : j < (bsl l).size := by rw [bsl_size]; exact hj
  have hg : (bsl l)[j]'hs = c := by rw [bsl_get]; exact he
  rw [Go.Lib.run_next_ascii_at w k (bsl l) j ty hk hs (by rw [hg]; exact ha), hg, hz]
theorem next_fin_at {P : Program} (w : World) (k : Nat) (l : List UInt8) (j : Nat) (ty : TypeId) (hk : w.heap[k]? = some (.stringIter (bsl l) j)) (h : ¬ j < l.length) :
    (Instr.next (.pointer (some ⟨k, 0, none⟩)) true ty).run P w = .ok (.tuple #[.bool false]) w :=
  Go.Lib.run_next_end_at w k (bsl l) j ty hk (by rw [bsl_size]; exact h)
theorem take_succ_of {α : Type} (l : List α) (j : Nat) (c : α) (hc : l[j]? = some c) : l.take (j + 1) = l.take j ++ [c] := by
  have hj : j < l.length := (List.getElem?_eq_some_iff.1 hc).1
  have he : l[j] = c := (List.getElem?_eq_some_iff.1 hc).2
  rw [List.take_succ_eq_append_getElem hj, he]
theorem below_iter {B : Nat} {a w : World} (h : Below B a w) (hB : B ≤ w.heap.size) (s : ByteArray) (pos : Nat) : Below B a (w.iter s pos) := h.alloc hB _
theorem five_new (w : World) (a b c d e : Value) (t : TypeId) : (w.alloc (.cells #[a, b, c, d, e] t)).cell? ⟨w.heap.size, 0, none⟩ = some a ∧ (w.alloc (.cells #[a, b, c, d, e] t)).cell? ⟨w.heap.size, 1, none⟩ = some b ∧ (w.alloc (.cells #[a, b, c, d, e] t)).cell? ⟨w.heap.size, 2, none⟩ = some c ∧ (w.alloc (.cells #[a, b, c, d, e] t)).cell? ⟨w.heap.size, 3, none⟩ = some d ∧ (w.alloc (.cells #[a, b, c, d, e] t)).cell? ⟨w.heap.size, 4, none⟩ = some e ∧ w.heap.size < (w.alloc (.cells #[a, b, c, d, e] t)).heap.size := by
  refine ⟨?_, ?_, ?_, ?_, ?_, ?_⟩ <;> simp [go_sem]
end Go.Proofs.YtnppegldebocmaaGreatDoor
