/- The walk of the document's SumOf. The document's memory: its state, the walks of at, put, ReachError, Load, Store. The document's memory, second part: the walks of Load and Store. The walk of the document's ResultOf, by the kinds of ops. The walks of the document's IsOf, fieldWell. Conditions: as each theorem states. -/
import Derived.Test.YtadoaldnjnkhgaaGreatDoorQ09
import Derived.Test.YtadoaldnjnkhgaaGreatDoorQ05
import Derived.Test.YtadoaldnjnkhgaaGreatDoorQ04
import Derived.StillTailTactics
import Derived.Test.YtadoaldnjnkhgaaGreatDoorQ06
import Derived.Test.YtadoaldnjnkhgaaGreatDoorQ01
import Derived.Test.YtadoaldnjnkhgaaGreatDoorRows
import Derived.Handy
import Derived.Lib.Hide
set_option linter.unusedVariables false
set_option linter.unusedSimpArgs false
namespace Go.Proofs.YtadoaldnjnkhgaaGreatDoor
open Go.RowKit
set_option maxHeartbeats 1000000
theorem mulOf_s (a b : Int) (a0 : 0 ≤ a) (a1 : a < 4294967296) (b0 : 0 ≤ b) (b1 : b < 4294967296) (w : World) :
    Calls Tryz.prog 133 #[.int .u32 a, .int .u32 b, .bool true] w fun e w' => e = .returned (.tuple #[.int .u32 (mulZ a b true).1, .int .u32 (mulZ a b true).2]) ∧ w = w' := by
  have rA := wrap32_range a
  have rB := wrap32_range b
  by_cases hA : 0 ≤ wrap32 a
  · by_cases hB : 0 ≤ wrap32 b
    · exact mulOf_pp a b _ _ a0 a1 b0 b1 hA (by omega) hB (by omega) rfl rfl w
    · exact mulOf_pn a b (wrap32 a) (-wrap32 b) a0 a1 b0 b1 hA (by omega) (by omega) (by omega) rfl (by omega) w
  · by_cases hB : 0 ≤ wrap32 b
    · exact mulOf_np a b (-wrap32 a) (wrap32 b) a0 a1 b0 b1 (by omega) (by omega) hB (by omega) (by omega) rfl w
    · exact mulOf_nn a b (-wrap32 a) (-wrap32 b) a0 a1 b0 b1 (by omega) (by omega) (by omega) (by omega) (by omega) (by omega) w
theorem mulOf_any (a b : Int) (s : Bool) (a0 : 0 ≤ a) (a1 : a < 4294967296) (b0 : 0 ≤ b) (b1 : b < 4294967296) (w : World) :
    Calls Tryz.prog 133 #[.int .u32 a, .int .u32 b, .bool s] w fun e w' => e = .returned (.tuple #[.int .u32 (mulZ a b s).1, .int .u32 (mulZ a b s).2]) ∧ w = w' := by
  cases s
  · exact mulOf_u a b a0 a1 b0 b1 w
  · exact mulOf_s a b a0 a1 b0 b1 w
theorem bits_at8 (a b : Int) (a0 : 0 ≤ a) (a1 : a < 4294967296) (b0 : 0 ≤ b) (b1 : b < 4294967296) (w : World) :
    Calls Tryz.prog 130 #[.int .u32 a, .int .u32 b, .int .i64 8] w fun e w' => e = .returned (.int .u32 (bitsZ 8 a b)) ∧ w = w' := bits_any 8 a b (by decide) a0 a1 b0 b1 w
theorem bits_at14 (a b : Int) (a0 : 0 ≤ a) (a1 : a < 4294967296) (b0 : 0 ≤ b) (b1 : b < 4294967296) (w : World) :
    Calls Tryz.prog 130 #[.int .u32 a, .int .u32 b, .int .i64 14] w fun e w' => e = .returned (.int .u32 (bitsZ 14 a b)) ∧ w = w' := bits_any 14 a b (by decide) a0 a1 b0 b1 w
theorem bits_at6 (a b : Int) (a0 : 0 ≤ a) (a1 : a < 4294967296) (b0 : 0 ≤ b) (b1 : b < 4294967296) (w : World) :
    Calls Tryz.prog 130 #[.int .u32 a, .int .u32 b, .int .i64 6] w fun e w' => e = .returned (.int .u32 (bitsZ 6 a b)) ∧ w = w' := bits_any 6 a b (by decide) a0 a1 b0 b1 w
theorem bits_at1 (a b : Int) (a0 : 0 ≤ a) (a1 : a < 4294967296) (b0 : 0 ≤ b) (b1 : b < 4294967296) (w : World) :
    Calls Tryz.prog 130 #[.int .u32 a, .int .u32 b, .int .i64 1] w fun e w' => e = .returned (.int .u32 (bitsZ 1 a b)) ∧ w = w' := bits_any 1 a b (by decide) a0 a1 b0 b1 w
theorem sumOf_add (a b : Int) (a0 : 0 ≤ a) (a1 : a < 4294967296) (b0 : 0 ≤ b) (b1 : b < 4294967296) (w : World) :
    Calls Tryz.prog 98 #[.string ⟨#[97, 100, 100]⟩, .int .u32 a, .int .u32 b] w fun e w' => e = .returned (.int .u32 (sumZ .add a b)) ∧ w = w' := by
  have H0 := Lib.hid (fun wx => plusC_any a b a0 a1 b0 b1 wx)
  have HV : Hid (sumZ .add a b = sumZ .add a b) := rfl
  go_enter Tryz.func98, Tryz.ntmps98
  go_wp2_with fail
  (with_reducible refine (H0.out _).mono ?_)
  rintro e w0 ⟨rfl, rfl⟩
  go_wp2
  go_ret
  exact ⟨rfl, rfl⟩
theorem sumOf_sub (a b : Int) (a0 : 0 ≤ a) (a1 : a < 4294967296) (b0 : 0 ≤ b) (b1 : b < 4294967296) (w : World) :
    Calls Tryz.prog 98 #[.string ⟨#[115, 117, 98]⟩, .int .u32 a, .int .u32 b] w fun e w' => e = .returned (.int .u32 (sumZ .sub a b)) ∧ w = w' := by
  have H0 := Lib.hid (fun wx => word_any (a - b) (by omega) (by omega) wx)
  have HV : Hid (sumZ .sub a b = sumZ .sub a b) := rfl
  go_enter Tryz.func98, Tryz.ntmps98
  go_wp2_with fail
  (with_reducible refine (H0.out _).mono ?_)
  rintro e w0 ⟨rfl, rfl⟩
  go_wp2
  go_ret
  exact ⟨rfl, rfl⟩
theorem sumOf_and (a b : Int) (a0 : 0 ≤ a) (a1 : a < 4294967296) (b0 : 0 ≤ b) (b1 : b < 4294967296) (w : World) :
    Calls Tryz.prog 98 #[.string ⟨#[97, 110, 100]⟩, .int .u32 a, .int .u32 b] w fun e w' => e = .returned (.int .u32 (sumZ .and a b)) ∧ w = w' := by
  have H0 := Lib.hid (fun wx => bits_at8 a b a0 a1 b0 b1 wx)
  have HV : Hid (sumZ .and a b = sumZ .and a b) := rfl
  go_enter Tryz.func98, Tryz.ntmps98
  go_wp2_with fail
  (with_reducible refine (H0.out _).mono ?_)
  rintro e w0 ⟨rfl, rfl⟩
  go_wp2
  go_ret
  exact ⟨rfl, rfl⟩
theorem sumOf_or (a b : Int) (a0 : 0 ≤ a) (a1 : a < 4294967296) (b0 : 0 ≤ b) (b1 : b < 4294967296) (w : World) :
    Calls Tryz.prog 98 #[.string ⟨#[111, 114]⟩, .int .u32 a, .int .u32 b] w fun e w' => e = .returned (.int .u32 (sumZ .or a b)) ∧ w = w' := by
  have H0 := Lib.hid (fun wx => bits_at14 a b a0 a1 b0 b1 wx)
  have HV : Hid (sumZ .or a b = sumZ .or a b) := rfl
  go_enter Tryz.func98, Tryz.ntmps98
  go_wp2_with fail
  (with_reducible refine (H0.out _).mono ?_)
  rintro e w0 ⟨rfl, rfl⟩
  go_wp2
  go_ret
  exact ⟨rfl, rfl⟩
theorem sumOf_xor (a b : Int) (a0 : 0 ≤ a) (a1 : a < 4294967296) (b0 : 0 ≤ b) (b1 : b < 4294967296) (w : World) :
    Calls Tryz.prog 98 #[.string ⟨#[120, 111, 114]⟩, .int .u32 a, .int .u32 b] w fun e w' => e = .returned (.int .u32 (sumZ .xor a b)) ∧ w = w' := by
  have H0 := Lib.hid (fun wx => bits_at6 a b a0 a1 b0 b1 wx)
  have HV : Hid (sumZ .xor a b = sumZ .xor a b) := rfl
  go_enter Tryz.func98, Tryz.ntmps98
  go_wp2_with fail
  (with_reducible refine (H0.out _).mono ?_)
  rintro e w0 ⟨rfl, rfl⟩
  go_wp2
  go_ret
  exact ⟨rfl, rfl⟩
theorem sumOf_nor (a b : Int) (a0 : 0 ≤ a) (a1 : a < 4294967296) (b0 : 0 ≤ b) (b1 : b < 4294967296) (w : World) :
    Calls Tryz.prog 98 #[.string ⟨#[110, 111, 114]⟩, .int .u32 a, .int .u32 b] w fun e w' => e = .returned (.int .u32 (sumZ .nor a b)) ∧ w = w' := by
  have H0 := Lib.hid (fun wx => bits_at1 a b a0 a1 b0 b1 wx)
  have HV : Hid (sumZ .nor a b = sumZ .nor a b) := rfl
  go_enter Tryz.func98, Tryz.ntmps98
  go_wp2_with fail
  (with_reducible refine (H0.out _).mono ?_)
  rintro e w0 ⟨rfl, rfl⟩
  go_wp2
  go_ret
  exact ⟨rfl, rfl⟩
theorem sumOf_shl (a b : Int) (a0 : 0 ≤ a) (a1 : a < 4294967296) (b0 : 0 ≤ b) (b1 : b < 4294967296) (w : World) :
    Calls Tryz.prog 98 #[.string ⟨#[115, 104, 108]⟩, .int .u32 a, .int .u32 b] w fun e w' => e = .returned (.int .u32 (sumZ .shl a b)) ∧ w = w' := by
  have H0 := Lib.hid (fun wx => shl_any a b a0 a1 b0 b1 wx)
  have HV : Hid (sumZ .shl a b = sumZ .shl a b) := rfl
  go_enter Tryz.func98, Tryz.ntmps98
  go_wp2_with fail
  (with_reducible refine (H0.out _).mono ?_)
  rintro e w0 ⟨rfl, rfl⟩
  go_wp2
  go_ret
  exact ⟨rfl, rfl⟩
theorem sumOf_shr (a b : Int) (a0 : 0 ≤ a) (a1 : a < 4294967296) (b0 : 0 ≤ b) (b1 : b < 4294967296) (w : World) :
    Calls Tryz.prog 98 #[.string ⟨#[115, 104, 114]⟩, .int .u32 a, .int .u32 b] w fun e w' => e = .returned (.int .u32 (sumZ .shr a b)) ∧ w = w' := by
  have H0 := Lib.hid (fun wx => shr_any a b a0 a1 b0 b1 wx)
  have HV : Hid (sumZ .shr a b = sumZ .shr a b) := rfl
  go_enter Tryz.func98, Tryz.ntmps98
  go_wp2_with fail
  (with_reducible refine (H0.out _).mono ?_)
  rintro e w0 ⟨rfl, rfl⟩
  go_wp2
  go_ret
  exact ⟨rfl, rfl⟩
theorem sumOf_sar (a b : Int) (a0 : 0 ≤ a) (a1 : a < 4294967296) (b0 : 0 ≤ b) (b1 : b < 4294967296) (w : World) :
    Calls Tryz.prog 98 #[.string ⟨#[115, 97, 114]⟩, .int .u32 a, .int .u32 b] w fun e w' => e = .returned (.int .u32 (sumZ .sar a b)) ∧ w = w' := by
  have H0 := Lib.hid (fun wx => sar_any a b a0 a1 b0 b1 wx)
  have HV : Hid (sumZ .sar a b = sumZ .sar a b) := rfl
  go_enter Tryz.func98, Tryz.ntmps98
  go_wp2_with fail
  (with_reducible refine (H0.out _).mono ?_)
  rintro e w0 ⟨rfl, rfl⟩
  go_wp2
  go_ret
  exact ⟨rfl, rfl⟩
theorem sumOf_slt (a b : Int) (a0 : 0 ≤ a) (a1 : a < 4294967296) (b0 : 0 ≤ b) (b1 : b < 4294967296) (w : World) :
    Calls Tryz.prog 98 #[.string ⟨#[115, 108, 116]⟩, .int .u32 a, .int .u32 b] w fun e w' => e = .returned (.int .u32 (sumZ .slt a b)) ∧ w = w' := by
  have H0 := Lib.hid (fun wx => less_s a b a0 a1 b0 b1 wx)
  have H1 := Lib.hid (fun wx => bit_any (decide (wrap32 a < wrap32 b)) wx)
  have HV : Hid (sumZ .slt a b = sumZ .slt a b) := rfl
  go_enter Tryz.func98, Tryz.ntmps98
  go_wp2_with fail
  (with_reducible refine (H0.out _).mono ?_)
  rintro e w0 ⟨rfl, rfl⟩
  go_wp2_with fail
  (with_reducible refine (H1.out _).mono ?_)
  rintro e w1 ⟨rfl, rfl⟩
  go_wp2
  go_ret
  exact ⟨rfl, rfl⟩
theorem sumOf_sltu (a b : Int) (a0 : 0 ≤ a) (a1 : a < 4294967296) (b0 : 0 ≤ b) (b1 : b < 4294967296) (w : World) :
    Calls Tryz.prog 98 #[.string ⟨#[115, 108, 116, 117]⟩, .int .u32 a, .int .u32 b] w fun e w' => e = .returned (.int .u32 (sumZ .sltu a b)) ∧ w = w' := by
  have H0 := Lib.hid (fun wx => less_u a b wx)
  have H1 := Lib.hid (fun wx => bit_any (decide (a < b)) wx)
  have HV : Hid (sumZ .sltu a b = sumZ .sltu a b) := rfl
  go_enter Tryz.func98, Tryz.ntmps98
  go_wp2_with fail
  (with_reducible refine (H0.out _).mono ?_)
  rintro e w0 ⟨rfl, rfl⟩
  go_wp2_with fail
  (with_reducible refine (H1.out _).mono ?_)
  rintro e w1 ⟨rfl, rfl⟩
  go_wp2
  go_ret
  exact ⟨rfl, rfl⟩
theorem sumOf_mul (a b : Int) (a0 : 0 ≤ a) (a1 : a < 4294967296) (b0 : 0 ≤ b) (b1 : b < 4294967296) (w : World) :
    Calls Tryz.prog 98 #[.string ⟨#[109, 117, 108]⟩, .int .u32 a, .int .u32 b] w fun e w' => e = .returned (.int .u32 (sumZ .mul a b)) ∧ w = w' := by
  have H0 := Lib.hid (fun wx => mulOf_u a b a0 a1 b0 b1 wx)
  have HV : Hid (sumZ .mul a b = (mulZ a b false).2) := rfl
  generalize (mulZ a b false).1 = hi at *
  generalize (mulZ a b false).2 = lo at *
  clear a0 a1 b0 b1
  go_enter Tryz.func98, Tryz.ntmps98
  go_wp2_with fail
  (with_reducible refine (H0.out _).mono ?_)
  rintro e w0 ⟨rfl, rfl⟩
  go_wp2
  go_ret
  exact ⟨ret_int HV.out.symm, rfl⟩
theorem sumOf_mulh (a b : Int) (a0 : 0 ≤ a) (a1 : a < 4294967296) (b0 : 0 ≤ b) (b1 : b < 4294967296) (w : World) :
    Calls Tryz.prog 98 #[.string ⟨#[109, 117, 108, 104]⟩, .int .u32 a, .int .u32 b] w fun e w' => e = .returned (.int .u32 (sumZ .mulh a b)) ∧ w = w' := by
  have H0 := Lib.hid (fun wx => mulOf_s a b a0 a1 b0 b1 wx)
  have HV : Hid (sumZ .mulh a b = (mulZ a b true).1) := rfl
  generalize (mulZ a b true).1 = hi at *
  generalize (mulZ a b true).2 = lo at *
  clear a0 a1 b0 b1
  go_enter Tryz.func98, Tryz.ntmps98
  go_wp2_with fail
  (with_reducible refine (H0.out _).mono ?_)
  rintro e w0 ⟨rfl, rfl⟩
  go_wp2
  go_ret
  exact ⟨ret_int HV.out.symm, rfl⟩
theorem sumOf_mulhu (a b : Int) (a0 : 0 ≤ a) (a1 : a < 4294967296) (b0 : 0 ≤ b) (b1 : b < 4294967296) (w : World) :
    Calls Tryz.prog 98 #[.string ⟨#[109, 117, 108, 104, 117]⟩, .int .u32 a, .int .u32 b] w fun e w' => e = .returned (.int .u32 (sumZ .mulhu a b)) ∧ w = w' := by
  have H0 := Lib.hid (fun wx => mulOf_u a b a0 a1 b0 b1 wx)
  have HV : Hid (sumZ .mulhu a b = (mulZ a b false).1) := rfl
  generalize (mulZ a b false).1 = hi at *
  generalize (mulZ a b false).2 = lo at *
  clear a0 a1 b0 b1
  go_enter Tryz.func98, Tryz.ntmps98
  go_wp2_with fail
  (with_reducible refine (H0.out _).mono ?_)
  rintro e w0 ⟨rfl, rfl⟩
  go_wp2
  go_ret
  exact ⟨ret_int HV.out.symm, rfl⟩
theorem sumOf_any {k : OpK} (hk : isSumK k = true) (a b : Int) (a0 : 0 ≤ a) (a1 : a < 4294967296) (b0 : 0 ≤ b) (b1 : b < 4294967296) (w : World) :
    Calls Tryz.prog 98 #[.string (bsl k.text), .int .u32 a, .int .u32 b] w fun e w' => e = .returned (.int .u32 (sumZ k a b)) ∧ w = w' := by
  cases k with
  | set => exact absurd hk (by decide)
  | copy => exact absurd hk (by decide)
  | overP => exact absurd hk (by decide)
  | overM => exact absurd hk (by decide)
  | load => exact absurd hk (by decide)
  | store => exact absurd hk (by decide)
  | cond => exact absurd hk (by decide)
  | out => exact absurd hk (by decide)
  | outr => exact absurd hk (by decide)
  | quo => exact absurd hk (by decide)
  | rem => exact absurd hk (by decide)
  | quou => exact absurd hk (by decide)
  | remu => exact absurd hk (by decide)
  | add => exact sumOf_add a b a0 a1 b0 b1 w
  | sub => exact sumOf_sub a b a0 a1 b0 b1 w
  | and => exact sumOf_and a b a0 a1 b0 b1 w
  | or => exact sumOf_or a b a0 a1 b0 b1 w
  | xor => exact sumOf_xor a b a0 a1 b0 b1 w
  | nor => exact sumOf_nor a b a0 a1 b0 b1 w
  | shl => exact sumOf_shl a b a0 a1 b0 b1 w
  | shr => exact sumOf_shr a b a0 a1 b0 b1 w
  | sar => exact sumOf_sar a b a0 a1 b0 b1 w
  | slt => exact sumOf_slt a b a0 a1 b0 b1 w
  | sltu => exact sumOf_sltu a b a0 a1 b0 b1 w
  | mul => exact sumOf_mul a b a0 a1 b0 b1 w
  | mulh => exact sumOf_mulh a b a0 a1 b0 b1 w
  | mulhu => exact sumOf_mulhu a b a0 a1 b0 b1 w
end Go.Proofs.YtadoaldnjnkhgaaGreatDoor
namespace Go.Proofs.YtadoaldnjnkhgaaGreatDoor
open Go.RowKit
structure Row (w : World) (b : Nat) (t : TypeId) (n : Nat) (g : Nat → Value) : Prop where
  ex : ∃ cs : Array Value, w.heap[b]? = some (.cells cs t (0, 0)) ∧ cs.size = n ∧ ∀ k, k < n → cs[k]? = some (g k)
theorem Row.cell {w : World} {b n : Nat} {t : TypeId} {g : Nat → Value} (h : Row w b t n g) {k : Nat} (hk : k < n) : w.cell? ⟨b, k, none⟩ = some (g k) := by
  obtain ⟨cs, h1, h2, h3⟩ := h.ex
  simp [World.cell?, h1, h3 k hk]
theorem Row.free {w : World} {b n : Nat} {t : TypeId} {g : Nat → Value} (h : Row w b t n g) (k : Nat) : w.frozen? ⟨b, k, none⟩ = false := by
  obtain ⟨cs, h1, h2, h3⟩ := h.ex
  simp [World.frozen?, h1]
theorem Row.lt {w : World} {b n : Nat} {t : TypeId} {g : Nat → Value} (h : Row w b t n g) : b < w.heap.size := by
  obtain ⟨cs, h1, _⟩ := h.ex
  exact (Array.getElem?_eq_some_iff.1 h1).1
theorem Row.of_block {w w' : World} {b n : Nat} {t : TypeId} {g : Nat → Value} (h : Row w b t n g) (e : w'.heap[b]? = w.heap[b]?) : Row w' b t n g := by
  obtain ⟨cs, h1, h2⟩ := h.ex
  exact ⟨cs, e.trans h1, h2⟩
theorem Row.set {w : World} {b n : Nat} {t : TypeId} {g : Nat → Value} (h : Row w b t n g) (k : Nat) (v : Value) : Row (w.setCell ⟨b, k, none⟩ v) b t n (fun j => if j = k then v else g j) := by
  obtain ⟨cs, h1, h2, h3⟩ := h.ex
  refine ⟨_, Joins.block_setCell h1 v, by simpa using h2, fun j hj => ?_⟩
  rw [Array.getElem?_setIfInBounds]
  by_cases e : k = j
  · subst e
    rw [if_pos rfl, if_pos (by omega), if_pos rfl]
  · rw [if_neg e, h3 j hj, if_neg (fun h => e h.symm)]
theorem Row.eqv {w : World} {b n : Nat} {t : TypeId} {g g' : Nat → Value} (h : Row w b t n g) (e : ∀ k, k < n → g k = g' k) : Row w b t n g' := by
  obtain ⟨cs, h1, h2, h3⟩ := h.ex
  exact ⟨cs, h1, h2, fun k hk => (h3 k hk).trans (by rw [e k hk])⟩
structure Kept (S : Nat → Prop) (w w' : World) : Prop where
  below : Below 0 w w'
  same : ∀ k, k < w.heap.size → ¬ S k → w'.heap[k]? = w.heap[k]?
theorem Kept.refl (S : Nat → Prop) (w : World) : Kept S w w := ⟨Below.refl _ _, fun _ _ _ => rfl⟩
theorem Kept.trans {S : Nat → Prop} {a b c : World} (h : Kept S a b) (k : Kept S b c) : Kept S a c := ⟨h.below.trans k.below, fun i hi hs => (k.same i (Nat.lt_of_lt_of_le hi h.below.size) hs).trans (h.same i hi hs)⟩
theorem Kept.mono {S T : Nat → Prop} {a b : World} (h : Kept S a b) (hs : ∀ k, S k → T k) : Kept T a b := ⟨h.below, fun i hi ht => h.same i hi (fun x => ht (hs i x))⟩
theorem Kept.of_below {S : Nat → Prop} {a b : World} (h : Below a.heap.size a b) : Kept S a b := ⟨h.mono (Nat.zero_le _), fun i hi _ => h.block i hi⟩
theorem Kept.to_below {S : Nat → Prop} {a b : World} {B : Nat} (h : Kept S a b) (hB : B ≤ a.heap.size) (hS : ∀ k, k < B → ¬ S k) : Below B a b := ⟨h.below.os, h.below.tape, h.below.output, h.below.size, fun k hk => h.same k (by omega) (hS k hk)⟩
theorem Kept.set (w : World) (b i : Nat) (v : Value) : Kept (fun k => k = b) w (w.setCell ⟨b, i, none⟩ v) :=
  ⟨(Below.refl 0 w).setCell (Nat.zero_le _) _, fun k _ hk => setCell_other w b i k v hk⟩
theorem Row.kept {S : Nat → Prop} {w w' : World} {b n : Nat} {t : TypeId} {g : Nat → Value} (h : Row w b t n g) (hk : Kept S w w') (hb : ¬ S b) : Row w' b t n g := h.of_block (hk.same b h.lt hb)
def wordsG (ws : List Int) : Nat → Value := fun k => .int .u32 (ws.getD k 0)
def boolsG (f : Nat → Bool) : Nat → Value := fun k => .bool (f k)
structure RamM (w : World) (r bw ba bh : Nat) (ws : List Int) (wt ht : Nat → Bool) : Prop where
  blk : w.heap[r]? = some (.cells #[.slice (some ⟨bw, 0, none⟩) 4096 4096, .slice (some ⟨ba, 0, none⟩) 64 64, .slice (some ⟨bh, 0, none⟩) 64 64] 58 (0, 0))
  words : Row w bw 22 4096 (wordsG ws)
  watch : Row w ba 4 64 (boolsG wt)
  hit : Row w bh 4 64 (boolsG ht)
  ne : ba ≠ bh
  len : ws.length = 4096
  ok : WsOK ws
theorem RamM.lt {w : World} {r bw ba bh : Nat} {ws : List Int} {wt ht : Nat → Bool} (h : RamM w r bw ba bh ws wt ht) : r < w.heap.size := (Array.getElem?_eq_some_iff.1 h.blk).1
theorem RamM.kept {S : Nat → Prop} {w w' : World} {r bw ba bh : Nat} {ws : List Int} {wt ht : Nat → Bool} (h : RamM w r bw ba bh ws wt ht) (hk : Kept S w w') (h1 : ¬ S r) (h2 : ¬ S bw) (h3 : ¬ S ba) (h4 : ¬ S bh) : RamM w' r bw ba bh ws wt ht :=
  ⟨(hk.same r h.lt h1).trans h.blk, h.words.kept hk h2, h.watch.kept hk h3, h.hit.kept hk h4, h.ne, h.len, h.ok⟩
theorem RamM.below {w w' : World} {r bw ba bh : Nat} {ws : List Int} {wt ht : Nat → Bool} (h : RamM w r bw ba bh ws wt ht) (hb : Below w.heap.size w w') : RamM w' r bw ba bh ws wt ht :=
  h.kept (S := fun _ => False) (.of_below hb) id id id id
theorem RamM.cells {w : World} {r bw ba bh : Nat} {ws : List Int} {wt ht : Nat → Bool} (h : RamM w r bw ba bh ws wt ht) : w.cell? ⟨r, 0, none⟩ = some (.slice (some ⟨bw, 0, none⟩) 4096 4096) ∧ w.cell? ⟨r, 1, none⟩ = some (.slice (some ⟨ba, 0, none⟩) 64 64) ∧ w.cell? ⟨r, 2, none⟩ = some (.slice (some ⟨bh, 0, none⟩) 64 64) := by
  have := h.blk
  refine ⟨?_, ?_, ?_⟩ <;> simp [World.cell?, this]
theorem RamM.word {w : World} {r bw ba bh : Nat} {ws : List Int} {wt ht : Nat → Bool} (h : RamM w r bw ba bh ws wt ht) {k : Nat} (hk : k < 4096) : w.cell? ⟨bw, k, none⟩ = some (.int .u32 (ws.getD k 0)) := h.words.cell hk
theorem RamM.range {w : World} {r bw ba bh : Nat} {ws : List Int} {wt ht : Nat → Bool} (h : RamM w r bw ba bh ws wt ht) (k : Nat) : 0 ≤ ws.getD k 0 ∧ ws.getD k 0 < 4294967296 := by
  rw [List.getD_eq_getElem?_getD]
  cases e : ws[k]? with
  | none => exact ⟨by decide, by decide⟩
  | some z => exact h.ok z (List.mem_of_getElem? e)
theorem RamM.apart {w : World} {r bw ba bh : Nat} {ws : List Int} {wt ht : Nat → Bool} (h : RamM w r bw ba bh ws wt ht) : r ≠ bw ∧ r ≠ ba ∧ r ≠ bh ∧ bw ≠ ba ∧ bw ≠ bh := by
  obtain ⟨c1, a1, _⟩ := h.words.ex
  obtain ⟨c2, a2, _⟩ := h.watch.ex
  obtain ⟨c3, a3, _⟩ := h.hit.ex
  have h0 := h.blk
  have key : ∀ {x y : Nat} {cx cy : Array Value} {tx ty : TypeId}, w.heap[x]? = some (.cells cx tx (0, 0)) → w.heap[y]? = some (.cells cy ty (0, 0)) → tx ≠ ty → x ≠ y := by
    intro x y cx cy tx ty hx hy hne e
    subst e
    rw [hx] at hy
    simp only [Option.some.injEq, Obj.cells.injEq] at hy
    exact hne hy.2.1
  exact ⟨key h0 a1 (by decide), key h0 a2 (by decide), key h0 a3 (by decide), key a1 a2 (by decide), key a1 a3 (by decide)⟩
theorem RamM.setWord {w : World} {r bw ba bh : Nat} {ws : List Int} {wt ht : Nat → Bool} (h : RamM w r bw ba bh ws wt ht) (k : Nat) (hk : k < 4096) (v : Int) (hv : Reg32 v) : RamM (w.setCell ⟨bw, k, none⟩ (.int .u32 v)) r bw ba bh (ws.set k v) wt ht := by
  obtain ⟨n1, n2, n3, n4, n5⟩ := h.apart
  have hK := Kept.set w bw k (.int .u32 v)
  refine ⟨(hK.same r h.lt n1).trans h.blk, (h.words.set k (.int .u32 v)).eqv (fun j hj => ?_), h.watch.kept hK (fun e => n4 e.symm), h.hit.kept hK (fun e => n5 e.symm), h.ne, by rw [List.length_set]; exact h.len, fun z hz => ?_⟩
  · unfold wordsG
    rw [List.getD_eq_getElem?_getD, List.getD_eq_getElem?_getD, List.getElem?_set]
    by_cases e : k = j
    · subst e
      rw [if_pos rfl, if_pos rfl, if_pos (by rw [h.len]; exact hk)]
      rfl
    · rw [if_neg e, if_neg (fun x => e x.symm)]
  · rcases List.mem_or_eq_of_mem_set hz with hz | rfl
    · exact h.ok z hz
    · exact hv
theorem RamM.setHit {w : World} {r bw ba bh : Nat} {ws : List Int} {wt ht : Nat → Bool} (h : RamM w r bw ba bh ws wt ht) (k : Nat) (v : Bool) : RamM (w.setCell ⟨bh, k, none⟩ (.bool v)) r bw ba bh ws wt (fun j => if j = k then v else ht j) := by
  obtain ⟨n1, n2, n3, n4, n5⟩ := h.apart
  have hK := Kept.set w bh k (.bool v)
  refine ⟨(hK.same r h.lt n3).trans h.blk, h.words.kept hK n5, h.watch.kept hK h.ne, (h.hit.set k (.bool v)).eqv (fun j hj => ?_), h.ne, h.len, h.ok⟩
  show (if j = k then Value.bool v else Value.bool (ht j)) = Value.bool (if j = k then v else ht j)
  by_cases e : j = k
  · rw [if_pos e, if_pos e]
  · rw [if_neg e, if_neg e]
/-! Addresses. -/
def reachErr (a : Int) (n : Nat) : Nat := if a % n ≠ 0 then 9 else if 16384 ≤ a then 10 else 0
theorem reach_iff (a : Int) (n : Nat) : reach a n = true ↔ reachErr a n = 0 := by
  unfold reach reachErr
  rw [decide_eq_true_eq]
  split
  · exact ⟨fun h => absurd h.1 (by assumption), fun h => by omega⟩
  · split
    · exact ⟨fun h => by omega, fun h => by omega⟩
    · exact ⟨fun _ => rfl, fun _ => ⟨by omega, by omega⟩⟩
theorem reachError_any (a : Int) (a0 : 0 ≤ a) (a1 : a < 4294967296) (n : Nat) (hn : n = 1 ∨ n = 2 ∨ n = 4) (w : World) :
    Calls Tryz.prog 95 #[.int .u32 a, .int .i64 (n : Int)] w fun e w' => e = .returned (.int .i64 (reachErr a n : Int)) ∧ w = w' := by
  by_cases hA : a % (n : Int) = 0
  · by_cases hF : 16384 ≤ a
    · have HV : Hid ((reachErr a n : Int) = 10) := by
        show _ = _
        unfold reachErr
        rw [if_neg (by simpa using hA), if_pos hF]
        rfl
      rcases hn with rfl | rfl | rfl
      all_goals
        go_enter Tryz.func95, Tryz.ntmps95
        go_wp2
        go_ret
        exact ⟨ret_int HV.out.symm, rfl⟩
    · have HV : Hid ((reachErr a n : Int) = 0) := by
        show _ = _
        unfold reachErr
        rw [if_neg (by simpa using hA), if_neg hF]
        rfl
      have hF2 : a < 16384 := by omega
      rcases hn with rfl | rfl | rfl
      all_goals
        go_enter Tryz.func95, Tryz.ntmps95
        go_wp2
        go_ret
        exact ⟨ret_int HV.out.symm, rfl⟩
  · have HV : Hid ((reachErr a n : Int) = 9) := by
      show _ = _
      unfold reachErr
      rw [if_pos hA]
      rfl
    rcases hn with rfl | rfl | rfl
    · exact absurd (by simp : a % ((1 : Nat) : Int) = 0) hA
    all_goals
      go_enter Tryz.func95, Tryz.ntmps95
      go_wp2
      go_ret
      exact ⟨ret_int HV.out.symm, rfl⟩
theorem RamM.drew {w : World} {r bw ba bh : Nat} {ws : List Int} {wt ht : Nat → Bool} (h : RamM w r bw ba bh ws wt ht) : RamM w.drew r bw ba bh ws wt ht := h.below (Below.refl _ _).drew
theorem Kept.drewl {S : Nat → Prop} {w w' : World} (h : Kept S w.drew w') : Kept S w w' := (Kept.of_below (Below.refl _ _).drew).trans h
theorem part8 (x : Int) (u : Nat) (h0 : 0 ≤ x) (h1 : x < 4294967296) (hu : u < 32) (w : World) :
    Calls Tryz.prog 100 #[.int .u32 x, .int .i64 (u : Int), .int .i64 8] w fun e w' => e = .returned (.int .i64 (x / p2 u % p2 8)) ∧ w = w' := part_any x u 8 h0 h1 hu (by decide) w
section
variable {w : World} {r bw ba bh : Nat} {ws : List Int} {wt ht : Nat → Bool}
theorem at_any (h : RamM w r bw ba bh ws wt ht) (a : Nat) (ha : a < 16384) :
    Calls Tryz.prog 128 #[.pointer (some ⟨r, 0, none⟩), .int .i64 (a : Int)] w fun e w' => e = .returned (.int .u8 (byteAt ws a)) ∧ w = w' := by
  obtain ⟨k, hk⟩ : ∃ k : Nat, a / 4 = k := ⟨_, rfl⟩
  obtain ⟨u, hu⟩ : ∃ u : Nat, 24 - 8 * (a % 4) = u := ⟨_, rfl⟩
  have hk2 : (a : Int) / 4 = (k : Int) := by omega
  have hu2 : 24 - 8 * ((a : Int) % 4) = (u : Int) := by omega
  have hkl : k < 4096 := by omega
  have hkI : (k : Int) < 4096 := by omega
  have hul : u < 32 := by omega
  have HV : Hid (byteAt ws a = ws.getD k 0 / p2 u % p2 8) := by
    show _ = _
    unfold byteAt p2
    rw [hk, hu]
    rfl
  obtain ⟨x0, x1⟩ := h.range k
  have hc := h.word hkl
  obtain ⟨c0, c1, c2⟩ := h.cells
  have HP := Lib.hid (fun wx => part8 (ws.getD k 0) u x0 x1 hul wx)
  have hb0 : 0 ≤ ws.getD k 0 / p2 u % p2 8 := by rw [← HV.out]; exact (byte_ok ws a).1
  have hb1 : ws.getD k 0 / p2 u % p2 8 < 256 := by rw [← HV.out]; exact (byte_ok ws a).2
  generalize ws.getD k 0 = x at *
  have ha0 : (0 : Int) ≤ (a : Int) := by omega
  have ha1 : (a : Int) < 16384 := by omega
  clear h hk hu hkl ha
  go_enter Tryz.func128, Tryz.ntmps128
  go_wp2_with fail
  (with_reducible refine (HP.out _).mono ?_)
  rintro e w1 ⟨rfl, rfl⟩
  go_wp2
  go_ret
  exact ⟨ret_int HV.out.symm, rfl⟩
theorem put_eq (x b v : Int) (u : Nat) (hu : u < 32) : ((x - shlZ b u) % 4294967296 + shlZ v u) % 4294967296 = (x - b * 2 ^ u + v * 2 ^ u) % 4294967296 := by
  have e : ∀ z, shlZ z (u : Int) = z * 2 ^ u % 4294967296 := by
    intro z
    unfold shlZ
    rw [show ((u : Int) % 32).toNat = u by omega]
  rw [e, e]
  generalize b * 2 ^ u = B
  generalize v * 2 ^ u = V
  omega
theorem shlZ_ok (a n : Int) : Reg32 (shlZ a n) := r32_mod _
set_option maxHeartbeats 1000000 in
set_option maxRecDepth 100000 in
theorem put_any (h : RamM w r bw ba bh ws wt ht) (a : Nat) (ha : a < 16384) (v : Int) (v0 : 0 ≤ v) (v1 : v < 256) :
    Calls Tryz.prog 99 #[.pointer (some ⟨r, 0, none⟩), .int .i64 (a : Int), .int .u8 v] w fun e w' => e = .returned (.tuple #[]) ∧ RamM w' r bw ba bh (putByte ws a v) wt ht ∧ Kept (fun k => k = bw) w w' := by
  have HR := Lib.hid h
  obtain ⟨k, hk⟩ : ∃ k : Nat, a / 4 = k := ⟨_, rfl⟩
  obtain ⟨u, hu⟩ : ∃ u : Nat, 24 - 8 * (a % 4) = u := ⟨_, rfl⟩
  have hk2 : (a : Int) / 4 = (k : Int) := by omega
  have hu2 : 24 - 8 * ((a : Int) % 4) = (u : Int) := by omega
  have hkl : k < 4096 := by omega
  have HKL := Lib.hid hkl
  have hkI : (k : Int) < 4096 := by omega
  have hul : u < 32 := by omega
  have hul2 : (u : Int) < 32 := by omega
  have HAT := Lib.hid (at_any h a ha)
  obtain ⟨b0, b1⟩ := byte_ok ws a
  have HS := Lib.hid (fun wx => shl_any (byteAt ws a) (u : Int) b0 (by omega) (by omega) (by omega) wx)
  have HS2 := Lib.hid (fun wx => shl_any v (u : Int) v0 (by omega) (by omega) (by omega) wx)
  have HPE := Lib.hid (put_eq (ws.getD k 0) (byteAt ws a) v u hul)
  have HV : Hid (putByte ws a v = ws.set k ((ws.getD k 0 - byteAt ws a * 2 ^ u + v * 2 ^ u) % 4294967296)) := by
    show _ = _
    unfold putByte
    rw [hk, hu]
  obtain ⟨s0, s1⟩ := shlZ_ok (byteAt ws a) (u : Int)
  obtain ⟨s2, s3⟩ := shlZ_ok v (u : Int)
  obtain ⟨x0, x1⟩ := h.range k
  have hc := h.word hkl
  have hf := h.words.free k
  obtain ⟨c0, c1, c2⟩ := h.cells
  have hwk : IntKind.i64.wrap (k : Int) = (k : Int) := IntWalk.i64_in _ ⟨by omega, by omega⟩
  have hcd : w.drew.cell? ⟨bw, k, none⟩ = some (.int .u32 (ws.getD k 0)) := hc
  have hfd : w.drew.frozen? ⟨bw, k, none⟩ = false := hf
  generalize shlZ (byteAt ws a) (u : Int) = so at *
  generalize shlZ v (u : Int) = sn at *
  generalize byteAt ws a = bt at *
  generalize ws.getD k 0 = x at *
  have ha0 : (0 : Int) ≤ (a : Int) := by omega
  have ha1 : (a : Int) < 16384 := by omega
  clear h hk hu hkl ha
  go_enter Tryz.func99, Tryz.ntmps99
  go_wp2_with fail
  (with_reducible refine HAT.out.mono ?_)
  rintro e w1 ⟨rfl, rfl⟩
  go_wp2_with fail
  (with_reducible refine (HS.out _).mono ?_)
  rintro e w1 ⟨rfl, rfl⟩
  go_wp2_with fail
  (with_reducible refine (HS2.out _).mono ?_)
  rintro e w1 ⟨rfl, rfl⟩
  go_wp2_with fail
  go_still_tail 19, (by kernel_rfl)
  change wpList _ _ _ _ _ w.drew
  have HZ : Hid (RamM (w.drew.setCell ⟨bw, k, none⟩ (.int .u32 (((x - so) % 4294967296 + sn) % 4294967296))) r bw ba bh (putByte ws a v) wt ht) := by
    refine Lib.hid ?_
    rw [HV.out, ← HPE.out]
    exact HR.out.drew.setWord k HKL.out _ (r32_mod _)
  have HK : Hid (Kept (fun k => k = bw) w (w.drew.setCell ⟨bw, k, none⟩ (.int .u32 (((x - so) % 4294967296 + sn) % 4294967296)))) := Lib.hid (Kept.set w.drew bw k _).drewl
  generalize w.drew = wd at *
  go_wp2
  go_end0
  exact ⟨rfl, HZ.out, HK.out⟩
end
end Go.Proofs.YtadoaldnjnkhgaaGreatDoor
namespace Go.Proofs.YtadoaldnjnkhgaaGreatDoor
open Go.RowKit
theorem reach_parts {a : Int} {n : Nat} (h : reach a n = true) : a % (n : Int) = 0 ∧ a < 16384 := by
  unfold reach at h
  simpa using h
theorem reach_end {a : Int} {n : Nat} (h : reach a n = true) (hn : n = 1 ∨ n = 2 ∨ n = 4) : a + n ≤ 16384 := by
  obtain ⟨h1, h2⟩ := reach_parts h
  rcases hn with rfl | rfl | rfl <;> omega
theorem reachErr_0 {a : Int} {n : Nat} (h : reach a n = true) : reachErr a n = 0 := (reach_iff a n).1 h
theorem reachErr_pos {a : Int} {n : Nat} (h : ¬ reach a n = true) : 0 < reachErr a n := Nat.pos_of_ne_zero (fun e => h ((reach_iff a n).2 e))
theorem pow_256 {j n : Nat} (h : j ≤ n) (hn : n ≤ 4) : (256 : Int) ^ j ≤ 4294967296 := by
  rcases (show j = 0 ∨ j = 1 ∨ j = 2 ∨ j = 3 ∨ j = 4 by omega) with rfl | rfl | rfl | rfl | rfl <;> decide
section
variable {w : World} {r bw ba bh : Nat} {ws : List Int} {wt ht : Nat → Bool}
theorem load_no (h : RamM w r bw ba bh ws wt ht) (a : Int) (a0 : 0 ≤ a) (a1 : a < 4294967296) (n : Nat) (hn : n = 1 ∨ n = 2 ∨ n = 4) (s : Bool) (hr : ¬ reach a n = true) :
    Calls Tryz.prog 94 #[.pointer (some ⟨r, 0, none⟩), .int .u32 a, .int .i64 (n : Int), .bool s] w fun e w' => e = .returned (.tuple #[.int .u32 0, .int .i64 (reachErr a n : Int)]) ∧ w = w' := by
  have HE := Lib.hid (fun wx => reachError_any a a0 a1 n hn wx)
  have h0 := reachErr_pos hr
  generalize reachErr a n = er at *
  have h1 : (0 : Int) < (er : Int) := by omega
  clear h hr h0
  go_enter Tryz.func94, Tryz.ntmps94
  go_wp2_with fail
  (with_reducible refine (HE.out _).mono ?_)
  rintro e w1 ⟨rfl, rfl⟩
  go_wp2
  go_ret2
  exact ⟨rfl, rfl⟩
set_option maxHeartbeats 1000000 in
theorem load_yes (h : RamM w r bw ba bh ws wt ht) (a n : Nat) (hn : n = 1 ∨ n = 2 ∨ n = 4) (s : Bool) (hs : n = 4 → s = false) (hr : reach (a : Int) n = true) :
    Calls Tryz.prog 94 #[.pointer (some ⟨r, 0, none⟩), .int .u32 (a : Int), .int .i64 (n : Int), .bool s] w fun e w' => e = .returned (.tuple #[.int .u32 (wideZ (loadN ws a n) n s), .int .i64 0]) ∧ w = w' := by
  have hend := reach_end hr hn
  obtain ⟨l0, l1⟩ := load_ok ws a n
  have l2 := pow_256 (j := n) (Nat.le_refl n) (by omega)
  have HW : Hid (∀ wx, Calls Tryz.prog 129 #[.int .u32 (loadN ws a n), .int .i64 (8 * (n : Int)), .bool s] wx fun e w' => e = .returned (.int .u32 (wideZ (loadN ws a n) n s)) ∧ wx = w') := by
    refine Lib.hid ?_
    intro wx
    have := wideK_any (loadN ws a n) (8 * n) s l0 (by omega) (by omega) (by omega) wx
    rw [wideZ_K (loadN ws a n) l0 (by omega) n hn s hs] at this
    rw [show ((8 * n : Nat) : Int) = 8 * (n : Int) by omega] at this
    exact this
  have HE := Lib.hid (fun wx => reachError_any (a : Int) (by omega) (by omega) n hn wx)
  rw [reachErr_0 hr] at HE
  have HE2 : Hid (∀ wx, Calls Tryz.prog 95 #[.int .u32 (a : Int), .int .i64 (n : Int)] wx fun e w' => e = .returned (.int .i64 0) ∧ wx = w') := HE
  have HAT : Hid (∀ j : Nat, j < n → Calls Tryz.prog 128 #[.pointer (some ⟨r, 0, none⟩), .int .i64 ((a : Int) + (j : Int))] w fun e w' => e = .returned (.int .u8 (byteAt ws (a + j))) ∧ w = w') := by
    refine Lib.hid ?_
    intro j hj
    have := at_any h (a + j) (by omega)
    rw [show ((a + j : Nat) : Int) = (a : Int) + (j : Int) by omega] at this
    exact this
  have HN4 := Lib.hid (show n ≤ 4 by omega)
  have hn0 : (1 : Int) ≤ (n : Int) := by omega
  have hn4 : (n : Int) ≤ 4 := by omega
  have ha0 : (0 : Int) ≤ (a : Int) := by omega
  have ha1 : (a : Int) < 16384 := by omega
  have HL1 := Lib.hid l1
  have HL2 := Lib.hid l2
  clear h hr hend HE hs hn l1 l2
  go_enter Tryz.func94, Tryz.ntmps94
  go_wp2_with fail
  (with_reducible refine (HE2.out _).mono ?_)
  rintro e w1 ⟨rfl, rfl⟩
  go_wp2_with fail
  go_loop [11, 12] (fun v i => ∃ j : Nat, j ≤ n ∧ v = .int .i64 (loadN ws a j) ∧ i = .int .i64 (j : Int)) (fun _ i => n - (intOf i).toNat)
  case atStart => exact ⟨0, Nat.zero_le _, rfl, rfl⟩
  case round =>
    obtain ⟨j, hj, rfl, rfl⟩ := hrel
    obtain ⟨q0, q1⟩ := load_ok ws a j
    have q2 : loadN ws a j < 4294967296 := Int.lt_of_lt_of_le q1 (pow_256 hj HN4.out)
    clear q1
    by_cases hlt : j < n
    · have HS : Hid (loadN ws a (j + 1) = 256 * loadN ws a j + byteAt ws (a + j)) := rfl
      have HA := Lib.hid (HAT.out j hlt)
      obtain ⟨b0, b1⟩ := byte_ok ws (a + j)
      have hj4 : (j : Int) < 4 := by omega
      generalize byteAt ws (a + j) = bt at *
      go_wp2_with fail
      (with_reducible refine HA.out.mono ?_)
      rintro e w1 ⟨rfl, rfl⟩
      go_wp2
      go_round
      case rel => exact ⟨j + 1, by omega, by rw [HS.out], by go_num⟩
      case measure => simp [intOf]; omega
    · obtain rfl : j = n := by omega
      have HM : Hid (loadN ws a j % 4294967296 = loadN ws a j) := Lib.hid (Int.emod_eq_of_lt q0 q2)
      go_wp2_with fail
      (with_reducible refine (HW.out _).mono ?_)
      rintro e w1 ⟨rfl, rfl⟩
      go_wp2
      go_ret2
      exact ⟨rfl, rfl⟩
def hitN (wt ht : Nat → Bool) (p : Nat) : Nat → Bool := fun j => ht j || (decide (j = p) && wt p)
theorem RamM.eqHit {f g : Nat → Bool} (h : RamM w r bw ba bh ws wt f) (e : ∀ j, j < 64 → f j = g j) : RamM w r bw ba bh ws wt g :=
  ⟨h.blk, h.words, h.watch, h.hit.eqv (fun j hj => by unfold boolsG; rw [e j hj]), h.ne, h.len, h.ok⟩
theorem store_no (a : Int) (a0 : 0 ≤ a) (a1 : a < 4294967296) (n : Nat) (hn : n = 1 ∨ n = 2 ∨ n = 4) (v : Int) (hr : ¬ reach a n = true) (w : World) :
    Calls Tryz.prog 60 #[.pointer (some ⟨r, 0, none⟩), .int .u32 a, .int .i64 (n : Int), .int .u32 v] w fun e w' => e = .returned (.int .i64 (reachErr a n : Int)) ∧ w = w' := by
  have HE := Lib.hid (fun wx => reachError_any a a0 a1 n hn wx)
  have h0 := reachErr_pos hr
  generalize reachErr a n = er at *
  have h1 : (0 : Int) < (er : Int) := by omega
  clear hr h0
  go_enter Tryz.func60, Tryz.ntmps60
  go_wp2_with fail
  (with_reducible refine (HE.out _).mono ?_)
  rintro e w1 ⟨rfl, rfl⟩
  go_wp2
  go_ret
  exact ⟨rfl, rfl⟩
set_option maxHeartbeats 1000000 in
theorem store_yes (h : RamM w r bw ba bh ws wt ht) (a n : Nat) (hn : n = 1 ∨ n = 2 ∨ n = 4) (v : Int) (v0 : 0 ≤ v) (v1 : v < 4294967296) (hr : reach (a : Int) n = true) :
    Calls Tryz.prog 60 #[.pointer (some ⟨r, 0, none⟩), .int .u32 (a : Int), .int .i64 (n : Int), .int .u32 v] w fun e w' => e = .returned (.int .i64 0) ∧ RamM w' r bw ba bh (storeN a n v n ws) wt (hitN wt ht (a / 256)) ∧ Kept (fun k => k = bw ∨ k = bh) w w' := by
  have hend := reach_end hr hn
  have HE := Lib.hid (fun wx => reachError_any (a : Int) (by omega) (by omega) n hn wx)
  rw [reachErr_0 hr] at HE
  have HE2 : Hid (∀ wx, Calls Tryz.prog 95 #[.int .u32 (a : Int), .int .i64 (n : Int)] wx fun e w' => e = .returned (.int .i64 0) ∧ wx = w') := HE
  have HPUT : Hid (∀ (wx : World) (ws' : List Int) (j : Nat) (x : Int), RamM wx r bw ba bh ws' wt ht → j < n → 0 ≤ x → x < 256 → Calls Tryz.prog 99 #[.pointer (some ⟨r, 0, none⟩), .int .i64 ((a : Int) + (j : Int)), .int .u8 x] wx fun e w' => e = .returned (.tuple #[]) ∧ RamM w' r bw ba bh (putByte ws' (a + j) x) wt ht ∧ Kept (fun k => k = bw) wx w') := by
    refine Lib.hid ?_
    intro wx ws' j x hx hj x0 x1
    have := put_any hx (a + j) (by omega) x x0 x1
    rw [show ((a + j : Nat) : Int) = (a : Int) + (j : Int) by omega] at this
    exact this
  have HPART : Hid (∀ (wx : World) (j : Nat), j < n → Calls Tryz.prog 100 #[.int .u32 v, .int .i64 (8 * ((n : Int) - 1 - (j : Int))), .int .i64 8] wx fun e w' => e = .returned (.int .i64 (v / 2 ^ (8 * (n - 1 - j)) % 256)) ∧ wx = w') := by
    refine Lib.hid ?_
    intro wx j hj
    have := part8 v (8 * (n - 1 - j)) v0 v1 (by omega) wx
    rw [show ((8 * (n - 1 - j) : Nat) : Int) = 8 * ((n : Int) - 1 - (j : Int)) by omega] at this
    exact this
  obtain ⟨p, hp⟩ : ∃ p : Nat, a / 256 = p := ⟨_, rfl⟩
  have hp2 : (a : Int) / 256 = (p : Int) := by omega
  have hp3 : (p : Int) < 64 := by omega
  have HP3 : Hid (p < 64) := Lib.hid (by omega)
  rw [hp]
  have HN4 := Lib.hid (show n ≤ 4 by omega)
  have hn0 : (1 : Int) ≤ (n : Int) := by omega
  have hn4 : (n : Int) ≤ 4 := by omega
  have ha0 : (0 : Int) ≤ (a : Int) := by omega
  have ha1 : (a : Int) < 16384 := by omega
  have HR := Lib.hid h
  clear h hr hend HE hn hp
  go_enter Tryz.func60, Tryz.ntmps60
  go_wp2_with fail
  (with_reducible refine (HE2.out _).mono ?_)
  rintro e w1 ⟨rfl, rfl⟩
  go_wp2_with fail
  go_loopw [10] (fun i wr => ∃ j : Nat, j ≤ n ∧ i = .int .i64 (j : Int) ∧ Hid (RamM wr r bw ba bh (storeN a n v j ws) wt ht) ∧ Hid (Kept (fun k => k = bw) w wr)) (fun i _ => n - (intOf i).toNat)
  case atStart => exact ⟨0, Nat.zero_le _, rfl, HR, Lib.hid (Kept.refl _ _)⟩
  case round =>
    obtain ⟨j, hj, rfl, HRj, HKj⟩ := hrel
    by_cases hlt : j < n
    · have HS : Hid (storeN a n v (j + 1) ws = putByte (storeN a n v j ws) (a + j) (v / 2 ^ (8 * (n - 1 - j)) % 256)) := rfl
      have HA := Lib.hid (HPART.out wr j hlt)
      have hx0 : 0 ≤ v / 2 ^ (8 * (n - 1 - j)) % 256 := Int.emod_nonneg _ (by decide)
      have hx1 : v / 2 ^ (8 * (n - 1 - j)) % 256 < 256 := Int.emod_lt_of_pos _ (by decide)
      generalize v / 2 ^ (8 * (n - 1 - j)) % 256 = x at *
      have HB := Lib.hid (HPUT.out wr _ j x HRj.out hlt hx0 hx1)
      have hj4 : (j : Int) < 4 := by omega
      have hjn : (j : Int) < (n : Int) := by omega
      go_wp2_with fail
      (with_reducible refine HA.out.mono ?_)
      rintro e w1 ⟨rfl, rfl⟩
      go_wp2_with fail
      (with_reducible refine HB.out.mono ?_)
      rintro e w2 ⟨rfl, hr2, hk2⟩
      have HR2 := Lib.hid hr2
      have HK2 := Lib.hid hk2
      clear hr2 hk2
      go_wp2
      go_roundw
      case rel => exact ⟨j + 1, by omega, by go_num, by rw [HS.out]; exact HR2, Lib.hid (HKj.out.trans HK2.out)⟩
      case measure => simp [intOf]; omega
    · obtain rfl : j = n := by omega
      obtain ⟨c0, c1, c2⟩ := HRj.out.cells
      have hw := HRj.out.watch.cell HP3.out
      unfold boolsG at hw
      have hf := HRj.out.hit.free p
      have hc := HRj.out.hit.cell HP3.out
      cases hwt : wt p with
      | false =>
        have HF : Hid (RamM wr r bw ba bh (storeN a j v j ws) wt (hitN wt ht p)) := Lib.hid (HRj.out.eqHit (fun i _ => by unfold hitN; rw [hwt, Bool.and_false, Bool.or_false]))
        rw [hwt] at hw
        clear hwt
        go_wp2
        go_ret
        exact ⟨rfl, HF.out, HKj.out.mono (fun k hk => Or.inl hk)⟩
      | true =>
        have HF : Hid (RamM (wr.setCell ⟨bh, p, none⟩ (.bool true)) r bw ba bh (storeN a j v j ws) wt (hitN wt ht p)) := Lib.hid ((HRj.out.setHit p true).eqHit (fun i _ => by
          unfold hitN
          rw [hwt, Bool.and_true]
          by_cases e : i = p
          · rw [if_pos e, decide_eq_true e, Bool.or_true]
          · rw [if_neg e, decide_eq_false e, Bool.or_false]))
        have HF2 : Hid (Kept (fun k => k = bw ∨ k = bh) w (wr.setCell ⟨bh, p, none⟩ (.bool true))) := Lib.hid ((HKj.out.mono (fun k hk => Or.inl hk)).trans ((Kept.set wr bh p _).mono (fun k hk => Or.inr hk)))
        rw [hwt] at hw
        clear hwt
        go_wp2
        go_ret
        exact ⟨rfl, HF.out, HF2.out⟩
end
end Go.Proofs.YtadoaldnjnkhgaaGreatDoor
namespace Go.Proofs.YtadoaldnjnkhgaaGreatDoor
open Go.RowKit
set_option maxRecDepth 100000
set_option maxHeartbeats 4000000
abbrev opA (kt : ByteArray) (d a : Nat) (b imm : Int) (n : Nat) : Value := .agg #[.string kt, .int .i64 (d : Int), .int .i64 (a : Int), .int .i64 b, .int .u32 imm, .int .i64 (n : Int)]
abbrev resA (v p : Int) (t l : Bool) : Value := .agg #[.int .u32 v, .int .u32 p, .bool t, .bool l]
theorem below3 (w : World) (a b c : Obj) : Below w.heap.size w (((w.alloc a).alloc b).alloc c) := by
  have h1 := (Below.refl w.heap.size w).alloc (Nat.le_refl _) a
  have h2 := h1.alloc h1.size b
  exact h2.alloc h2.size c
abbrev W3 (w : World) (xs : Array Value) (kt : ByteArray) (d a : Nat) (b imm : Int) (n : Nat) : World :=
  ((w.alloc (.cells xs 106)).alloc (.cells #[.string kt, .int .i64 (d : Int), .int .i64 (a : Int), .int .i64 b, .int .u32 imm, .int .i64 (n : Int)] 86)).alloc (.cells #[.int .u32 0, .int .u32 0, .bool false, .bool false] 139)
theorem isDiv_set (w : World) : Calls Tryz.prog 96 #[.string ⟨#[115, 101, 116]⟩] w fun e w' => e = .returned (.bool false) ∧ w = w' := by
  go_enter Tryz.func96, Tryz.ntmps96
  go_wp2
  go_ret
  exact ⟨rfl, rfl⟩
theorem isDiv_copy (w : World) : Calls Tryz.prog 96 #[.string ⟨#[99, 111, 112, 121]⟩] w fun e w' => e = .returned (.bool false) ∧ w = w' := by
  go_enter Tryz.func96, Tryz.ntmps96
  go_wp2
  go_ret
  exact ⟨rfl, rfl⟩
theorem isDiv_overP (w : World) : Calls Tryz.prog 96 #[.string ⟨#[111, 118, 101, 114, 43]⟩] w fun e w' => e = .returned (.bool false) ∧ w = w' := by
  go_enter Tryz.func96, Tryz.ntmps96
  go_wp2
  go_ret
  exact ⟨rfl, rfl⟩
theorem isDiv_overM (w : World) : Calls Tryz.prog 96 #[.string ⟨#[111, 118, 101, 114, 45]⟩] w fun e w' => e = .returned (.bool false) ∧ w = w' := by
  go_enter Tryz.func96, Tryz.ntmps96
  go_wp2
  go_ret
  exact ⟨rfl, rfl⟩
theorem isDiv_load (w : World) : Calls Tryz.prog 96 #[.string ⟨#[108, 111, 97, 100]⟩] w fun e w' => e = .returned (.bool false) ∧ w = w' := by
  go_enter Tryz.func96, Tryz.ntmps96
  go_wp2
  go_ret
  exact ⟨rfl, rfl⟩
theorem isDiv_store (w : World) : Calls Tryz.prog 96 #[.string ⟨#[115, 116, 111, 114, 101]⟩] w fun e w' => e = .returned (.bool false) ∧ w = w' := by
  go_enter Tryz.func96, Tryz.ntmps96
  go_wp2
  go_ret
  exact ⟨rfl, rfl⟩
theorem isDiv_cond (w : World) : Calls Tryz.prog 96 #[.string ⟨#[105, 102]⟩] w fun e w' => e = .returned (.bool false) ∧ w = w' := by
  go_enter Tryz.func96, Tryz.ntmps96
  go_wp2
  go_ret
  exact ⟨rfl, rfl⟩
theorem isDiv_out (w : World) : Calls Tryz.prog 96 #[.string ⟨#[111, 117, 116]⟩] w fun e w' => e = .returned (.bool false) ∧ w = w' := by
  go_enter Tryz.func96, Tryz.ntmps96
  go_wp2
  go_ret
  exact ⟨rfl, rfl⟩
theorem isDiv_outr (w : World) : Calls Tryz.prog 96 #[.string ⟨#[111, 117, 116, 114]⟩] w fun e w' => e = .returned (.bool false) ∧ w = w' := by
  go_enter Tryz.func96, Tryz.ntmps96
  go_wp2
  go_ret
  exact ⟨rfl, rfl⟩
theorem isDiv_add (w : World) : Calls Tryz.prog 96 #[.string ⟨#[97, 100, 100]⟩] w fun e w' => e = .returned (.bool false) ∧ w = w' := by
  go_enter Tryz.func96, Tryz.ntmps96
  go_wp2
  go_ret
  exact ⟨rfl, rfl⟩
theorem isDiv_sub (w : World) : Calls Tryz.prog 96 #[.string ⟨#[115, 117, 98]⟩] w fun e w' => e = .returned (.bool false) ∧ w = w' := by
  go_enter Tryz.func96, Tryz.ntmps96
  go_wp2
  go_ret
  exact ⟨rfl, rfl⟩
theorem isDiv_and (w : World) : Calls Tryz.prog 96 #[.string ⟨#[97, 110, 100]⟩] w fun e w' => e = .returned (.bool false) ∧ w = w' := by
  go_enter Tryz.func96, Tryz.ntmps96
  go_wp2
  go_ret
  exact ⟨rfl, rfl⟩
theorem isDiv_or (w : World) : Calls Tryz.prog 96 #[.string ⟨#[111, 114]⟩] w fun e w' => e = .returned (.bool false) ∧ w = w' := by
  go_enter Tryz.func96, Tryz.ntmps96
  go_wp2
  go_ret
  exact ⟨rfl, rfl⟩
theorem isDiv_xor (w : World) : Calls Tryz.prog 96 #[.string ⟨#[120, 111, 114]⟩] w fun e w' => e = .returned (.bool false) ∧ w = w' := by
  go_enter Tryz.func96, Tryz.ntmps96
  go_wp2
  go_ret
  exact ⟨rfl, rfl⟩
theorem isDiv_nor (w : World) : Calls Tryz.prog 96 #[.string ⟨#[110, 111, 114]⟩] w fun e w' => e = .returned (.bool false) ∧ w = w' := by
  go_enter Tryz.func96, Tryz.ntmps96
  go_wp2
  go_ret
  exact ⟨rfl, rfl⟩
theorem isDiv_slt (w : World) : Calls Tryz.prog 96 #[.string ⟨#[115, 108, 116]⟩] w fun e w' => e = .returned (.bool false) ∧ w = w' := by
  go_enter Tryz.func96, Tryz.ntmps96
  go_wp2
  go_ret
  exact ⟨rfl, rfl⟩
theorem isDiv_sltu (w : World) : Calls Tryz.prog 96 #[.string ⟨#[115, 108, 116, 117]⟩] w fun e w' => e = .returned (.bool false) ∧ w = w' := by
  go_enter Tryz.func96, Tryz.ntmps96
  go_wp2
  go_ret
  exact ⟨rfl, rfl⟩
theorem isDiv_shl (w : World) : Calls Tryz.prog 96 #[.string ⟨#[115, 104, 108]⟩] w fun e w' => e = .returned (.bool false) ∧ w = w' := by
  go_enter Tryz.func96, Tryz.ntmps96
  go_wp2
  go_ret
  exact ⟨rfl, rfl⟩
theorem isDiv_shr (w : World) : Calls Tryz.prog 96 #[.string ⟨#[115, 104, 114]⟩] w fun e w' => e = .returned (.bool false) ∧ w = w' := by
  go_enter Tryz.func96, Tryz.ntmps96
  go_wp2
  go_ret
  exact ⟨rfl, rfl⟩
theorem isDiv_sar (w : World) : Calls Tryz.prog 96 #[.string ⟨#[115, 97, 114]⟩] w fun e w' => e = .returned (.bool false) ∧ w = w' := by
  go_enter Tryz.func96, Tryz.ntmps96
  go_wp2
  go_ret
  exact ⟨rfl, rfl⟩
theorem isDiv_mul (w : World) : Calls Tryz.prog 96 #[.string ⟨#[109, 117, 108]⟩] w fun e w' => e = .returned (.bool false) ∧ w = w' := by
  go_enter Tryz.func96, Tryz.ntmps96
  go_wp2
  go_ret
  exact ⟨rfl, rfl⟩
theorem isDiv_mulh (w : World) : Calls Tryz.prog 96 #[.string ⟨#[109, 117, 108, 104]⟩] w fun e w' => e = .returned (.bool false) ∧ w = w' := by
  go_enter Tryz.func96, Tryz.ntmps96
  go_wp2
  go_ret
  exact ⟨rfl, rfl⟩
theorem isDiv_mulhu (w : World) : Calls Tryz.prog 96 #[.string ⟨#[109, 117, 108, 104, 117]⟩] w fun e w' => e = .returned (.bool false) ∧ w = w' := by
  go_enter Tryz.func96, Tryz.ntmps96
  go_wp2
  go_ret
  exact ⟨rfl, rfl⟩
theorem isDiv_quo (w : World) : Calls Tryz.prog 96 #[.string ⟨#[113, 117, 111]⟩] w fun e w' => e = .returned (.bool true) ∧ w = w' := by
  go_enter Tryz.func96, Tryz.ntmps96
  go_wp2
  go_ret
  exact ⟨rfl, rfl⟩
theorem isDiv_rem (w : World) : Calls Tryz.prog 96 #[.string ⟨#[114, 101, 109]⟩] w fun e w' => e = .returned (.bool true) ∧ w = w' := by
  go_enter Tryz.func96, Tryz.ntmps96
  go_wp2
  go_ret
  exact ⟨rfl, rfl⟩
theorem isDiv_quou (w : World) : Calls Tryz.prog 96 #[.string ⟨#[113, 117, 111, 117]⟩] w fun e w' => e = .returned (.bool true) ∧ w = w' := by
  go_enter Tryz.func96, Tryz.ntmps96
  go_wp2
  go_ret
  exact ⟨rfl, rfl⟩
theorem isDiv_remu (w : World) : Calls Tryz.prog 96 #[.string ⟨#[114, 101, 109, 117]⟩] w fun e w' => e = .returned (.bool true) ∧ w = w' := by
  go_enter Tryz.func96, Tryz.ntmps96
  go_wp2
  go_ret
  exact ⟨rfl, rfl⟩
def divK (k : OpK) : Bool := match k with | .quo => true | .rem => true | .quou => true | .remu => true | _ => false
theorem isDiv_any (k : OpK) (w : World) :
    Calls Tryz.prog 96 #[.string (bsl k.text)] w fun e w' => e = .returned (.bool (divK k)) ∧ w = w' := by
  cases k with
  | set => exact isDiv_set w
  | copy => exact isDiv_copy w
  | overP => exact isDiv_overP w
  | overM => exact isDiv_overM w
  | load => exact isDiv_load w
  | store => exact isDiv_store w
  | cond => exact isDiv_cond w
  | out => exact isDiv_out w
  | outr => exact isDiv_outr w
  | add => exact isDiv_add w
  | sub => exact isDiv_sub w
  | and => exact isDiv_and w
  | or => exact isDiv_or w
  | xor => exact isDiv_xor w
  | nor => exact isDiv_nor w
  | slt => exact isDiv_slt w
  | sltu => exact isDiv_sltu w
  | shl => exact isDiv_shl w
  | shr => exact isDiv_shr w
  | sar => exact isDiv_sar w
  | mul => exact isDiv_mul w
  | mulh => exact isDiv_mulh w
  | mulhu => exact isDiv_mulhu w
  | quo => exact isDiv_quo w
  | rem => exact isDiv_rem w
  | quou => exact isDiv_quou w
  | remu => exact isDiv_remu w
section
variable (X : Regs) (xs : Array Value) (hx : xs.size = 64) (hX : ∀ k (h : k < 64), xs[k]'(by omega) = .int .u32 (X k)) (hXr : ∀ k, Reg32 (X k)) (r : Nat)
include hx hX
theorem res_set (d a : Nat) (b imm : Int) (n : Nat) (ha : a < 64) (hb0 : 0 ≤ b) (hb : b < 64) (w : World) :
    Calls Tryz.prog 58 #[.agg xs, .pointer (some ⟨r, 0, none⟩), opA ⟨#[115, 101, 116]⟩ d a b imm n] w fun e w' => e = .returned (resA imm 0 false false) ∧ Below w.heap.size w w' := by
  have hxa := hX a ha
  have hbn : b.toNat < 64 := by omega
  have hxb := hX b.toNat hbn
  go_enter Tryz.func58, Tryz.ntmps58
  go_wp2
  exact bodyPost_ret (v := resA imm 0 false false) (by simp [results, Tryz.results58, go_sem]) rfl ⟨rfl, below3 _ _ _ _⟩
theorem res_copy (d a : Nat) (b imm : Int) (n : Nat) (ha : a < 64) (hb0 : 0 ≤ b) (hb : b < 64) (w : World) :
    Calls Tryz.prog 58 #[.agg xs, .pointer (some ⟨r, 0, none⟩), opA ⟨#[99, 111, 112, 121]⟩ d a b imm n] w fun e w' => e = .returned (resA (X a) 0 false false) ∧ Below w.heap.size w w' := by
  have hxa := hX a ha
  have hbn : b.toNat < 64 := by omega
  have hxb := hX b.toNat hbn
  go_enter Tryz.func58, Tryz.ntmps58
  go_wp2
  exact bodyPost_ret (v := resA (X a) 0 false false) (by simp [results, Tryz.results58, go_sem]) rfl ⟨rfl, below3 _ _ _ _⟩
theorem res_out (d a : Nat) (b imm : Int) (n : Nat) (ha : a < 64) (hb0 : 0 ≤ b) (hb : b < 64) (w : World) :
    Calls Tryz.prog 58 #[.agg xs, .pointer (some ⟨r, 0, none⟩), opA ⟨#[111, 117, 116]⟩ d a b imm n] w fun e w' => e = .returned (resA 0 imm false true) ∧ Below w.heap.size w w' := by
  have hxa := hX a ha
  have hbn : b.toNat < 64 := by omega
  have hxb := hX b.toNat hbn
  go_enter Tryz.func58, Tryz.ntmps58
  go_wp2
  exact bodyPost_ret (v := resA 0 imm false true) (by simp [results, Tryz.results58, go_sem]) rfl ⟨rfl, below3 _ _ _ _⟩
theorem res_outr (d a : Nat) (b imm : Int) (n : Nat) (ha : a < 64) (hb0 : 0 ≤ b) (hb : b < 64) (w : World) :
    Calls Tryz.prog 58 #[.agg xs, .pointer (some ⟨r, 0, none⟩), opA ⟨#[111, 117, 116, 114]⟩ d a b imm n] w fun e w' => e = .returned (resA 0 (X a) false true) ∧ Below w.heap.size w w' := by
  have hxa := hX a ha
  have hbn : b.toNat < 64 := by omega
  have hxb := hX b.toNat hbn
  go_enter Tryz.func58, Tryz.ntmps58
  go_wp2
  exact bodyPost_ret (v := resA 0 (X a) false true) (by simp [results, Tryz.results58, go_sem]) rfl ⟨rfl, below3 _ _ _ _⟩
theorem res_cond (d a : Nat) (b imm : Int) (n : Nat) (ha : a < 64) (hb0 : 0 ≤ b) (hb : b < 64) (w : World) :
    Calls Tryz.prog 58 #[.agg xs, .pointer (some ⟨r, 0, none⟩), opA ⟨#[105, 102]⟩ d a b imm n] w fun e w' => e = .returned (resA 0 imm false (X a != 0)) ∧ Below w.heap.size w w' := by
  have hxa := hX a ha
  have hbn : b.toNat < 64 := by omega
  have hxb := hX b.toNat hbn
  go_enter Tryz.func58, Tryz.ntmps58
  go_wp2
  exact bodyPost_ret (v := resA 0 imm false (X a != 0)) (by simp [results, Tryz.results58, go_sem]) rfl ⟨rfl, below3 _ _ _ _⟩
theorem res_overP (d a : Nat) (b imm : Int) (n : Nat) (ha : a < 64) (hb0 : 0 ≤ b) (hb : b < 64) (hXr : ∀ k, Reg32 (X k)) (w : World) :
    Calls Tryz.prog 58 #[.agg xs, .pointer (some ⟨r, 0, none⟩), opA ⟨#[111, 118, 101, 114, 43]⟩ d a b imm n] w fun e w' => e = .returned (resA 0 0 (!fitsZ (wrap32 (X a) + wrap32 (X b.toNat))) false) ∧ Below w.heap.size w w' := by
  have hxa := hX a ha
  have hbn : b.toNat < 64 := by omega
  have hxb := hX b.toNat hbn
  obtain ⟨a0, a1⟩ := hXr a
  obtain ⟨b0, b1⟩ := hXr b.toNat
  have HA := Lib.hid (fun wx => signed_val (X a) a0 a1 wx)
  have HB := Lib.hid (fun wx => signed_val (X b.toNat) b0 b1 wx)
  have rA := wrap32_range (X a)
  have rB := wrap32_range (X b.toNat)
  generalize wrap32 (X a) = SA at *
  generalize wrap32 (X b.toNat) = SB at *
  obtain ⟨A0, A1⟩ := rA
  obtain ⟨B0, B1⟩ := rB
  have HF := Lib.hid (fun wx => isSigned_any (SA + SB) wx)
  generalize fitsZ (SA + SB) = ft at *
  go_enter Tryz.func58, Tryz.ntmps58
  go_wp2_with fail
  (with_reducible refine (HA.out _).mono ?_)
  rintro e w1 ⟨rfl, rfl⟩
  go_wp2_with fail
  (with_reducible refine (HB.out _).mono ?_)
  rintro e w1 ⟨rfl, rfl⟩
  go_wp2_with fail
  (with_reducible refine (HF.out _).mono ?_)
  rintro e w1 ⟨rfl, rfl⟩
  go_wp2
  exact bodyPost_ret (v := resA 0 0 (!ft) false) (by simp [results, Tryz.results58, go_sem]) rfl ⟨rfl, below3 _ _ _ _⟩
theorem res_overM (d a : Nat) (b imm : Int) (n : Nat) (ha : a < 64) (hb0 : 0 ≤ b) (hb : b < 64) (hXr : ∀ k, Reg32 (X k)) (w : World) :
    Calls Tryz.prog 58 #[.agg xs, .pointer (some ⟨r, 0, none⟩), opA ⟨#[111, 118, 101, 114, 45]⟩ d a b imm n] w fun e w' => e = .returned (resA 0 0 (!fitsZ (wrap32 (X a) - wrap32 (X b.toNat))) false) ∧ Below w.heap.size w w' := by
  have hxa := hX a ha
  have hbn : b.toNat < 64 := by omega
  have hxb := hX b.toNat hbn
  obtain ⟨a0, a1⟩ := hXr a
  obtain ⟨b0, b1⟩ := hXr b.toNat
  have HA := Lib.hid (fun wx => signed_val (X a) a0 a1 wx)
  have HB := Lib.hid (fun wx => signed_val (X b.toNat) b0 b1 wx)
  have rA := wrap32_range (X a)
  have rB := wrap32_range (X b.toNat)
  generalize wrap32 (X a) = SA at *
  generalize wrap32 (X b.toNat) = SB at *
  obtain ⟨A0, A1⟩ := rA
  obtain ⟨B0, B1⟩ := rB
  have HF := Lib.hid (fun wx => isSigned_any (SA - SB) wx)
  generalize fitsZ (SA - SB) = ft at *
  go_enter Tryz.func58, Tryz.ntmps58
  go_wp2_with fail
  (with_reducible refine (HA.out _).mono ?_)
  rintro e w1 ⟨rfl, rfl⟩
  go_wp2_with fail
  (with_reducible refine (HB.out _).mono ?_)
  rintro e w1 ⟨rfl, rfl⟩
  go_wp2_with fail
  (with_reducible refine (HF.out _).mono ?_)
  rintro e w1 ⟨rfl, rfl⟩
  go_wp2
  exact bodyPost_ret (v := resA 0 0 (!ft) false) (by simp [results, Tryz.results58, go_sem]) rfl ⟨rfl, below3 _ _ _ _⟩
end
end Go.Proofs.YtadoaldnjnkhgaaGreatDoor
namespace Go.Proofs.YtadoaldnjnkhgaaGreatDoor
open Go.RowKit
theorem eq_yes (l : List UInt8) (i : Nat) (h : i < (bsl l).size) (h' : i < l.length) (c : UInt8) (e : l[i] = c) : ((((bsl l)[i]'h).toNat : Int) == (c.toNat : Int)) = true := by
  rw [bsl_get, e]
  simp
theorem eq_no (l : List UInt8) (i : Nat) (h : i < (bsl l).size) (h' : i < l.length) (c : UInt8) (e : ¬ l[i] = c) : ((((bsl l)[i]'h).toNat : Int) == (c.toNat : Int)) = false := by
  rw [bsl_get, beq_eq_false_iff_ne]
  intro hh
  exact e (UInt8.toNat_inj.1 (by omega))
set_option maxHeartbeats 400000 in
theorem isOf_walk (l : List UInt8) (hl : l.length ≤ 100) (c : UInt8) (b : Bool) (hb : Hid (l.contains c = b)) (w : World) :
    Calls Tryz.prog 52 #[.string (bsl l), .int .u8 (c.toNat : Int)] w fun e w' => e = .returned (.bool b) ∧ w = w' := by
  have hsz := bsl_size l
  go_enter Tryz.func52, Tryz.ntmps52
  go_wp2
  go_loop [5] (fun v => ∃ i : Nat, i ≤ l.length ∧ v = .int .i64 (i : Int) ∧ Hid (∀ j : Nat, ∀ h : j < l.length, j < i → l[j] ≠ c)) (fun v => l.length - (intOf v).toNat)
  case atStart => exact ⟨0, Nat.zero_le _, rfl, fun j h hj => by omega⟩
  case round =>
    obtain ⟨i, hi, rfl, HN⟩ := hrel
    by_cases hlt : i < l.length
    · have hlt' : i < (bsl l).size := by omega
      by_cases he : l[i] = c
      · have h1 := eq_yes l i hlt' hlt c he
        have hbt : b = true := by
          rw [← hb.out]
          exact List.elem_eq_true_of_mem (he ▸ List.getElem_mem hlt)
        subst hbt
        clear he
        go_wp2
        go_ret
        exact ⟨rfl, rfl⟩
      · have h1 := eq_no l i hlt' hlt c he
        have HE := Lib.hid he
        clear he
        go_wp2
        go_round
        case rel =>
          refine ⟨i + 1, by omega, by go_num, fun j h hj => ?_⟩
          by_cases e : j = i
          · subst e; exact HE.out
          · exact HN.out j h (by omega)
        case measure => simp [intOf]; omega
    · have hbf : b = false := by
        rw [← hb.out]
        by_cases hm : l.contains c = true
        · have hm' : c ∈ l := by simpa using hm
          obtain ⟨j, hj, e⟩ := List.getElem_of_mem hm'
          exact absurd e (HN.out j hj (by omega))
        · simpa using hm
      subst hbf
      go_wp2
      go_ret
      exact ⟨rfl, rfl⟩
theorem isOf_lit (l : List UInt8) (hl : l.length ≤ 100) (c : UInt8) (z : Int) (hz : (c.toNat : Int) = z) (b : Bool) (hb : Hid (l.contains c = b)) (w : World) :
    Calls Tryz.prog 52 #[.string (bsl l), .int .u8 z] w fun e w' => e = .returned (.bool b) ∧ w = w' := by
  subst hz
  exact isOf_walk l hl c b hb w
theorem fieldWell_any (n : Int) (has b : Bool) (hb : (decide (n = 0) || has && decide (0 < n) && decide (n < 32)) = b) (w : World) :
    Calls Tryz.prog 51 #[.int .i64 n, .bool has] w fun e w' => e = .returned (.bool b) ∧ w = w' := by
  by_cases h0 : n = 0
  · subst h0
    simp at hb
    subst hb
    go_enter Tryz.func51, Tryz.ntmps51
    go_wp2
    go_ret
    exact ⟨rfl, rfl⟩
  · have h0' : (n == 0) = false := by simpa using h0
    cases has
    · simp [h0] at hb
      subst hb
      go_enter Tryz.func51, Tryz.ntmps51
      go_wp2
      go_ret
      exact ⟨rfl, rfl⟩
    · by_cases h1 : 0 < n
      · by_cases h2 : n < 32
        · simp [h0, h1, h2] at hb
          subst hb
          go_enter Tryz.func51, Tryz.ntmps51
          go_wp2
          go_ret
          exact ⟨rfl, rfl⟩
        · simp [h0, h2] at hb
          subst hb
          go_enter Tryz.func51, Tryz.ntmps51
          go_wp2
          go_ret
          exact ⟨rfl, rfl⟩
      · simp [h0, h1] at hb
        subst hb
        go_enter Tryz.func51, Tryz.ntmps51
        go_wp2
        go_ret
        exact ⟨rfl, rfl⟩
end Go.Proofs.YtadoaldnjnkhgaaGreatDoor
