/- The walks of ram.right, (*ram.Ram).Load. Conditions: as each theorem states. -/
import Derived.Test.YtnppegldebocmaaDoorKinds
import Derived.Test.YtnppegldebocmaaDoorWordR
import Derived.Handy
import Derived.Lib.Hide
import Derived.Laws.CopyOwn
import Derived.Deep.QuietTactic
import Derived.BigQuiet
namespace Go.Proofs.YtnppegldebocmaaDoor
open Go.RowKit
set_option linter.unusedVariables false
theorem right_ok (a : Int) (h0 : 0 ≤ a) (h4 : a % 4 = 0) (h1 : a < 16384) (w : World) :
    Calls Tryd.prog 68 #[.int .u32 a, .int .i64 4] w fun e w' => e = .returned .nilIface ∧ w = w' := by
  go_enter Tryd.func68, Tryd.ntmps68
  go_wp2
  go_ret
  exact ⟨rfl, rfl⟩
theorem right_far (a : Int) (h0 : 0 ≤ a) (h4 : a % 4 = 0) (h1 : 16384 ≤ a) (h2 : a < 4294967296) (vF : Value) (w : World) (hF : w.cell? ⟨3, 0, none⟩ = some vF) :
    Calls Tryd.prog 68 #[.int .u32 a, .int .i64 4] w fun e w' => e = .returned vF ∧ w = w' := by
  go_enter Tryd.func68, Tryd.ntmps68
  go_wp2
  go_ret
  exact ⟨rfl, rfl⟩
/-- Memory's block r holds bytes in block bb: byte i is f i. -/
structure RamAt (w : World) (r bb : Nat) (f : Nat → Int) : Prop where
  blk : ∃ vw vh : Value, w.heap[r]? = some (.cells #[.slice (some ⟨bb, 0, none⟩) 16384 16384, vw, vh] 72 (0, 0))
  cells : ∀ i, i < 16384 → w.cell? ⟨bb, i, none⟩ = some (.int .u8 (f i))
  lt : bb < w.heap.size
theorem RamAt.below {w w' : World} {r bb B : Nat} {f : Nat → Int} (h : RamAt w r bb f) (hb : Below B w w') (hr : r < B) (hbb : bb < B) : RamAt w' r bb f := by
  obtain ⟨vw, vh, hk⟩ := h.blk
  exact ⟨⟨vw, vh, (hb.block r hr).trans hk⟩, fun i hi => (hb.cell hbb).trans (h.cells i hi), Nat.lt_of_lt_of_le h.lt hb.size⟩
/-- The word that the first j bytes from place a make. -/
def accF (f : Nat → Int) (a : Nat) : Nat → Int
  | 0 => 0
  | j + 1 => accF f a j * 256 + f (a + j)
theorem acc_range (f : Nat → Int) (hf : ∀ i, 0 ≤ f i ∧ f i < 256) (a j : Nat) (hj : j ≤ 4) : 0 ≤ accF f a j ∧ accF f a j < 256 ^ j := by
  induction j with
  | zero => simp [accF]
  | succ j ih =>
    obtain ⟨h1, h2⟩ := ih (by omega)
    have := hf (a + j)
    rw [accF, Int.pow_succ]
    omega
theorem or_byte (x y : Int) (h0 : 0 ≤ x) (h1 : x < 16777216) (g0 : 0 ≤ y) (g1 : y < 256) : bits .or .u32 (x * 256) y = x * 256 + y := by
  obtain ⟨m, rfl⟩ := Int.eq_ofNat_of_zero_le h0
  obtain ⟨n, rfl⟩ := Int.eq_ofNat_of_zero_le g0
  have h := Nat.two_pow_add_eq_or_of_lt (i := 8) (b := n) (by omega) m
  rw [show (m : Int) * 256 = ((m * 256 : Nat) : Int) by omega, u32_or_nat (m * 256) n (by omega) (by omega)]
  rw [show (2 : Nat) ^ 8 * m = m * 256 by omega] at h
  rw [← h]
  omega
set_option maxHeartbeats 1000000 in
theorem load_ok (r bb : Nat) (f : Nat → Int) (hf : ∀ i, 0 ≤ f i ∧ f i < 256) (a : Nat) (h4 : a % 4 = 0) (h1 : a < 16384) (w : World) (hR : RamAt w r bb f) :
    Calls Tryd.prog 57 #[.pointer (some ⟨r, 0, none⟩), .int .u32 (a : Int), .int .i64 4, .bool false] w fun e w' => e = .returned (.tuple #[.int .u32 (accF f a 4), .nilIface]) ∧ w = w' := by
  obtain ⟨vw, vh, hk⟩ := hR.blk
  have c0 : w.cell? ⟨r, 0, none⟩ = some (.slice (some ⟨bb, 0, none⟩) 16384 16384) := by simp [World.cell?, hk]
  have HC := Lib.hid hR.cells
  have HF := Lib.hid hf
  have HRK := Lib.hid (fun W => right_ok (a : Int) (by omega) (by omega) (by omega) W)
  clear hk hR hf
  go_enter Tryd.func57, Tryd.ntmps57
  go_wp2_with (go_at_call 68; (with_reducible refine (HRK.out _).mono ?_); rintro e w1 ⟨rfl, rfl⟩)
  rw [show a + 4 - a = 4 from by omega]
  go_loop [31, 11] (fun i v => ∃ j : Nat, j ≤ 4 ∧ i = .int .i64 (j : Int) ∧ v = .int .u32 (accF f a j)) (fun i _ => 4 - (intOf i).toNat)
  case atStart => exact ⟨0, by omega, rfl, rfl⟩
  case round =>
    obtain ⟨j, hj, rfl, rfl⟩ := hrel
    by_cases hlt : j < 4
    · have hc := HC.out (a + j) (by omega)
      obtain ⟨hf0, hf1⟩ := HF.out (a + j)
      obtain ⟨ha0, ha1⟩ := acc_range f HF.out a j (by omega)
      have ha2 : accF f a j < 16777216 := Int.lt_of_lt_of_le ha1 (by
        have : j = 0 ∨ j = 1 ∨ j = 2 ∨ j = 3 := by omega
        rcases this with rfl | rfl | rfl | rfl <;> decide)
      have HS := Lib.hid (show accF f a (j + 1) = accF f a j * 256 + f (a + j) from rfl)
      have hor := or_byte _ _ ha0 ha2 hf0 hf1
      clear ha1
      go_wp2
      go_round
      case rel => exact ⟨j + 1, by omega, by go_num, by rw [HS.out]⟩
      case measure => simp [intOf]; omega
    · have e : j = 4 := by omega
      subst e
      have hm : accF f a 4 % 4294967296 = accF f a 4 := Int.emod_eq_of_lt (acc_range f HF.out a 4 (by omega)).1 (by have := (acc_range f HF.out a 4 (by omega)).2; exact Int.lt_of_lt_of_le this (by decide))
      go_wp2
      go_ret2
      exact ⟨rfl, rfl⟩
end Go.Proofs.YtnppegldebocmaaDoor
