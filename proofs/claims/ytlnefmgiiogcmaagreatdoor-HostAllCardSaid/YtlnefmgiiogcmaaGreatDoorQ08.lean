/- The walks of the document's Word, ShiftOf (up and down), Part, and of word.Shift (up). The walks of the document's sums: Signed, IsSigned, LessOf, Bit, MulOf, DivOf, ShiftOf, plus. The walks of the document's sums, third part: WideOf, bits, SumOf. The document's memory: its state, the walks of at, put, ReachError, Load, Store. The document's memory, second part: the walks of Load and Store. The walk of the document's ResultOf, by the kinds of ops. Conditions: as each theorem states. -/
import Derived.Test.YtlnefmgiiogcmaaGreatDoorRows
import Derived.Test.YtlnefmgiiogcmaaGreatDoorQ01
import Derived.Handy
import Derived.Lib.Hide
import Derived.Test.YtlnefmgiiogcmaaGreatDoorQ04
import Derived.Deep.QuietTactic
import Derived.BigQuiet
import Derived.OwnWalk
import Derived.StillTailTactics
import Derived.Test.YtlnefmgiiogcmaaGreatDoorQ05
set_option linter.unusedVariables false
set_option linter.unusedSimpArgs false
namespace Go.Proofs.YtlnefmgiiogcmaaGreatDoor
open Go.RowKit
def p2 (k : Nat) : Int := 2 ^ k
theorem ret_int {k : IntKind} {a b : Int} (h : a = b) : Ending.returned (.int k a) = .returned (.int k b) := by rw [h]
end Go.Proofs.YtlnefmgiiogcmaaGreatDoor
namespace Go.Proofs.YtlnefmgiiogcmaaGreatDoor
open Go.RowKit
/-! Products. -/
theorem mul_range (x y : Int) (x0 : 0 ≤ x) (x1 : x ≤ 4294967295) (y0 : 0 ≤ y) (y1 : y ≤ 65535) : 0 ≤ x * y ∧ x * y ≤ 281470681677825 := by
  refine ⟨Int.mul_nonneg x0 y0, ?_⟩
  have h1 := Int.mul_le_mul_of_nonneg_right x1 y0
  omega
theorem mul_halves (x y : Int) : x * y = x * (y % 65536) + x * (y / 65536) * 65536 := by
  have h : y = y % 65536 + y / 65536 * 65536 := by omega
  calc x * y = x * (y % 65536 + y / 65536 * 65536) := by rw [← h]
    _ = _ := by rw [Int.mul_add, Int.mul_assoc]
structure Halves (x y p q : Int) : Prop where
  p0 : 0 ≤ p
  p1 : p ≤ 281470681677825
  q0 : 0 ≤ q
  q1 : q ≤ 281470681677825
  eq : x * y = p + q * 65536
theorem Halves.of {x y : Int} (x0 : 0 ≤ x) (x1 : x ≤ 4294967295) (y0 : 0 ≤ y) (y1 : y ≤ 4294967295) : Halves x y (x * (y % 65536)) (x * (y / 65536)) := by
  obtain ⟨a, b⟩ := mul_range x (y % 65536) x0 x1 (by omega) (by omega)
  obtain ⟨c, d⟩ := mul_range x (y / 65536) x0 x1 (by omega) (by omega)
  exact ⟨a, b, c, d, mul_halves x y⟩
theorem Halves.hi {x y p q : Int} (h : Halves x y p q) : p / 4294967296 + q / 65536 + (p % 4294967296 + q % 65536 * 65536) / 4294967296 = x * y / 4294967296 ∧ (p % 4294967296 + q % 65536 * 65536) % 4294967296 = x * y % 4294967296 := by
  obtain ⟨p0, p1, q0, q1, e⟩ := h
  rw [e]
  omega
theorem mul_sq (x y : Int) (x0 : 0 ≤ x) (x1 : x ≤ 4294967295) (y0 : 0 ≤ y) (y1 : y ≤ 4294967295) : 0 ≤ x * y ∧ x * y ≤ 18446744065119617025 := by
  refine ⟨Int.mul_nonneg x0 y0, ?_⟩
  have h1 := Int.mul_le_mul_of_nonneg_right x1 y0
  omega
structure Prod (x y p q L h lo : Int) : Prop where
  hp : x * (y % 65536) = p
  hq : x * (y / 65536) = q
  hL : p % 4294967296 + q % 65536 * 65536 = L
  hh : p / 4294967296 + q / 65536 + L / 4294967296 = h
  hlo : L % 4294967296 = lo
  p0 : 0 ≤ p
  p1 : p ≤ 281470681677825
  q0 : 0 ≤ q
  q1 : q ≤ 281470681677825
  L0 : 0 ≤ L
  L1 : L ≤ 8589869055
  h0 : 0 ≤ h
  h1 : h < 4294967296
  l0 : 0 ≤ lo
  l1 : lo < 4294967296
  eh : h = x * y / 4294967296
  el : lo = x * y % 4294967296
theorem Prod.of {x y : Int} (x0 : 0 ≤ x) (x1 : x ≤ 4294967295) (y0 : 0 ≤ y) (y1 : y ≤ 4294967295) : ∃ p q L h lo, Prod x y p q L h lo := by
  have hH := Halves.of x0 x1 y0 y1
  have HV := hH.hi
  have HQ := mul_sq x y x0 x1 y0 y1
  obtain ⟨p0, p1, q0, q1, _⟩ := hH
  refine ⟨_, _, _, _, _, rfl, rfl, rfl, rfl, rfl, p0, p1, q0, q1, ?_, ?_, ?_, ?_, ?_, ?_, HV.1, HV.2⟩ <;> omega
end Go.Proofs.YtlnefmgiiogcmaaGreatDoor
namespace Go.Proofs.YtlnefmgiiogcmaaGreatDoor
open Go.RowKit
/-! Bits by a table. -/
theorem bitsN_step (t j x y o : Nat) (hj : j < 32) : o + 2 ^ j * bitsN t (32 - j) x y = o + 2 ^ j * (t / 2 ^ (2 * (x % 2) + y % 2) % 2) + 2 ^ (j + 1) * bitsN t (32 - (j + 1)) (x / 2) (y / 2) := by
  obtain ⟨m, hm⟩ : ∃ m, 32 - j = m + 1 := ⟨31 - j, by omega⟩
  have hm2 : 32 - (j + 1) = m := by omega
  rw [hm, hm2, show bitsN t (m + 1) x y = t / 2 ^ (2 * (x % 2) + y % 2) % 2 + 2 * bitsN t m (x / 2) (y / 2) from rfl]
  rw [Nat.mul_add, Nat.pow_succ, Nat.mul_assoc, Nat.add_assoc]
structure BitsAt (t A B j x y o P : Nat) : Prop where
  j1 : j ≤ 32
  x1 : x < 4294967296
  y1 : y < 4294967296
  o1 : o < P
  p : P = 2 ^ j
  eq : o + P * bitsN t (32 - j) x y = bitsN t 32 A B
theorem BitsAt.next {t A B j x y o P : Nat} (h : BitsAt t A B j x y o P) (hj : j < 32) : BitsAt t A B (j + 1) (x / 2) (y / 2) (o + P * (t / 2 ^ (2 * (x % 2) + y % 2) % 2)) (2 * P) where
  j1 := by omega
  x1 := by have := h.x1; omega
  y1 := by have := h.y1; omega
  o1 := by
    have h1 := h.o1
    have h2 : t / 2 ^ (2 * (x % 2) + y % 2) % 2 < 2 := Nat.mod_lt _ (by decide)
    rcases (show t / 2 ^ (2 * (x % 2) + y % 2) % 2 = 0 ∨ t / 2 ^ (2 * (x % 2) + y % 2) % 2 = 1 by omega) with e | e <;> rw [e] <;> omega
  p := by rw [h.p, Nat.pow_succ]; omega
  eq := by
    have h1 := h.eq
    rw [h.p, bitsN_step t j x y o hj, Nat.pow_succ] at h1
    rw [h.p, Nat.mul_comm 2 (2 ^ j)]
    exact h1
end Go.Proofs.YtlnefmgiiogcmaaGreatDoor
namespace Go.Proofs.YtlnefmgiiogcmaaGreatDoor
open Go.RowKit
structure Row (w : World) (b : Nat) (t : TypeId) (n : Nat) (g : Nat → Value) : Prop where
  ex : ∃ cs : Array Value, w.heap[b]? = some (.cells cs t (0, 0)) ∧ cs.size = n ∧ ∀ k, k < n → cs[k]? = some (g k)
theorem Row.cell {w : World} {b n : Nat} {t : TypeId} {g : Nat → Value} (h : Row w b t n g) {k : Nat} (hk : k < n) : w.cell? ⟨b, k, none⟩ = some (g k) := by
  obtain ⟨cs, h1, h2, h3⟩ := h.ex
  simp [World.cell?, h1, h3 k hk]
theorem Row.free {w : World} {b n : Nat} {t : TypeId} {g : Nat → Value} (h : Row w b t n g) (k : Nat) : w.frozen? ⟨b, k, none⟩ = false := by
  obtain ⟨cs, h1, h2, h3⟩ := h.ex
  simp [World.frozen?, h1]
theorem Row.lt {w : World} {b n : Nat} {t : TypeId} {g : Nat → Value} (h : Row w b t n g) : b < w.heap.size := by
  obtain ⟨cs, h1, _⟩ := h.ex
  exact (Array.getElem?_eq_some_iff.1 h1).1
theorem Row.of_block {w w' : World} {b n : Nat} {t : TypeId} {g : Nat → Value} (h : Row w b t n g) (e : w'.heap[b]? = w.heap[b]?) : Row w' b t n g := by
  obtain ⟨cs, h1, h2⟩ := h.ex
  exact ⟨cs, e.trans h1, h2⟩
theorem Row.set {w : World} {b n : Nat} {t : TypeId} {g : Nat → Value} (h : Row w b t n g) (k : Nat) (v : Value) : Row (w.setCell ⟨b, k, none⟩ v) b t n (fun j => if j = k then v else g j) := by
  obtain ⟨cs, h1, h2, h3⟩ := h.ex
  refine ⟨_, Joins.block_setCell h1 v, by simpa using h2, fun j hj => ?_⟩
  rw [Array.getElem?_setIfInBounds]
  by_cases e : k = j
  · subst e
    rw [if_pos rfl, if_pos (by omega), if_pos rfl]
  · rw [if_neg e, h3 j hj, if_neg (fun h => e h.symm)]
theorem Row.eqv {w : World} {b n : Nat} {t : TypeId} {g g' : Nat → Value} (h : Row w b t n g) (e : ∀ k, k < n → g k = g' k) : Row w b t n g' := by
  obtain ⟨cs, h1, h2, h3⟩ := h.ex
  exact ⟨cs, h1, h2, fun k hk => (h3 k hk).trans (by rw [e k hk])⟩
structure Kept (S : Nat → Prop) (w w' : World) : Prop where
  below : Below 0 w w'
  same : ∀ k, k < w.heap.size → ¬ S k → w'.heap[k]? = w.heap[k]?
theorem Kept.refl (S : Nat → Prop) (w : World) : Kept S w w := ⟨Below.refl _ _, fun _ _ _ => rfl⟩
theorem Kept.trans {S : Nat → Prop} {a b c : World} (h : Kept S a b) (k : Kept S b c) : Kept S a c := ⟨h.below.trans k.below, fun i hi hs => (k.same i (Nat.lt_of_lt_of_le hi h.below.size) hs).trans (h.same i hi hs)⟩
theorem Kept.mono {S T : Nat → Prop} {a b : World} (h : Kept S a b) (hs : ∀ k, S k → T k) : Kept T a b := ⟨h.below, fun i hi ht => h.same i hi (fun x => ht (hs i x))⟩
theorem Kept.of_below {S : Nat → Prop} {a b : World} (h : Below a.heap.size a b) : Kept S a b := ⟨h.mono (Nat.zero_le _), fun i hi _ => h.block i hi⟩
theorem Kept.to_below {S : Nat → Prop} {a b : World} {B : Nat} (h : Kept S a b) (hB : B ≤ a.heap.size) (hS : ∀ k, k < B → ¬ S k) : Below B a b := ⟨h.below.os, h.below.tape, h.below.output, h.below.size, fun k hk => h.same k (by omega) (hS k hk)⟩
theorem Kept.set (w : World) (b i : Nat) (v : Value) : Kept (fun k => k = b) w (w.setCell ⟨b, i, none⟩ v) :=
  ⟨(Below.refl 0 w).setCell (Nat.zero_le _) _, fun k _ hk => setCell_other w b i k v hk⟩
theorem Row.kept {S : Nat → Prop} {w w' : World} {b n : Nat} {t : TypeId} {g : Nat → Value} (h : Row w b t n g) (hk : Kept S w w') (hb : ¬ S b) : Row w' b t n g := h.of_block (hk.same b h.lt hb)
def wordsG (ws : List Int) : Nat → Value := fun k => .int .u32 (ws.getD k 0)
/-! Addresses. -/
section
variable {w : World} {r bw ba bh : Nat} {ws : List Int} {wt ht : Nat → Bool}
end
end Go.Proofs.YtlnefmgiiogcmaaGreatDoor
namespace Go.Proofs.YtlnefmgiiogcmaaGreatDoor
open Go.RowKit
section
variable {w : World} {r bw ba bh : Nat} {ws : List Int} {wt ht : Nat → Bool}
def hitN (wt ht : Nat → Bool) (p : Nat) : Nat → Bool := fun j => ht j || (decide (j = p) && wt p)
end
end Go.Proofs.YtlnefmgiiogcmaaGreatDoor
namespace Go.Proofs.YtlnefmgiiogcmaaGreatDoor
open Go.RowKit
set_option maxRecDepth 100000
set_option maxHeartbeats 4000000
abbrev opA (kt : ByteArray) (d a : Nat) (b imm : Int) (n : Nat) : Value := .agg #[.string kt, .int .i64 (d : Int), .int .i64 (a : Int), .int .i64 b, .int .u32 imm, .int .i64 (n : Int)]
section
variable (X : Regs) (xs : Array Value) (hx : xs.size = 64) (hX : ∀ k (h : k < 64), xs[k]'(by omega) = .int .u32 (X k)) (hXr : ∀ k, Reg32 (X k)) (r : Nat)
include hx hX
end
end Go.Proofs.YtlnefmgiiogcmaaGreatDoor
