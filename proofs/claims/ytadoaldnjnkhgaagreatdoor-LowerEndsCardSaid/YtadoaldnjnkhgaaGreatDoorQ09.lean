/- The walks of the document's Word, ShiftOf (up and down), Part, and of word.Shift (up). The walks of the document's sums: Signed, IsSigned, LessOf, Bit, MulOf, DivOf, ShiftOf, plus. The walks of the document's sums, second part: DivOf, ShiftOf, WideOf, plus, bits. The walks of the document's sums, third part: WideOf, bits, SumOf. Conditions: as each theorem states. -/
import Derived.Test.YtadoaldnjnkhgaaGreatDoorRows
import Derived.Test.YtadoaldnjnkhgaaGreatDoorQ01
import Derived.Handy
import Derived.Lib.Hide
import Derived.Test.YtadoaldnjnkhgaaGreatDoorQ04
import Derived.Deep.QuietTactic
import Derived.BigQuiet
import Derived.OwnWalk
set_option linter.unusedVariables false
set_option linter.unusedSimpArgs false
namespace Go.Proofs.YtadoaldnjnkhgaaGreatDoor
open Go.RowKit
def p2 (k : Nat) : Int := 2 ^ k
theorem p2_succ (k : Nat) : p2 (k + 1) = 2 * p2 k := by unfold p2; rw [Int.pow_succ]; omega
theorem p2_pos (k : Nat) : 1 ≤ p2 k := by
  induction k with
  | zero => decide
  | succ k ih => rw [p2_succ]; omega
theorem p2_mono {a b : Nat} (h : a ≤ b) : p2 a ≤ p2 b := by
  induction h with
  | refl => exact Int.le_refl _
  | step h ih => rw [p2_succ]; have := p2_pos; rename_i m; have := p2_pos m; omega
theorem p2_31 {k : Nat} (h : k ≤ 31) : p2 k ≤ 2147483648 := p2_mono h
theorem ret_int {k : IntKind} {a b : Int} (h : a = b) : Ending.returned (.int k a) = .returned (.int k b) := by rw [h]
theorem tmod_neg (n : Int) (hn : n < 0) : n.tmod 4294967296 = -((-n) % 4294967296) := by
  have e : n = -(-n) := by omega
  rw [e, Int.neg_tmod, Int.tmod_eq_emod_of_nonneg (by omega)]
  simp
theorem word_any (n : Int) (h0 : -9223372036854775808 ≤ n) (h1 : n ≤ 9223372036854775807) (w : World) :
    Calls Tryz.prog 101 #[.int .i64 n] w fun e w' => e = .returned (.int .u32 (n % 4294967296)) ∧ w = w' := by
  by_cases hn : 0 ≤ n
  · go_enter Tryz.func101, Tryz.ntmps101
    go_wp2
    go_ret
    exact ⟨rfl, rfl⟩
  · have HT := Lib.hid (tmod_neg n (by omega))
    have t0 : -4294967296 < n.tmod 4294967296 := by rw [HT.out]; omega
    have t1 : n.tmod 4294967296 ≤ 0 := by rw [HT.out]; omega
    have hn' : n < 0 := by omega
    by_cases hz : n.tmod 4294967296 < 0
    · go_enter Tryz.func101, Tryz.ntmps101
      go_wp2
      go_ret
      refine ⟨ret_int ?_, rfl⟩
      rw [HT.out] at hz ⊢
      omega
    · go_enter Tryz.func101, Tryz.ntmps101
      go_wp2
      go_ret
      refine ⟨ret_int ?_, rfl⟩
      rw [HT.out] at hz ⊢
      omega
set_option maxHeartbeats 400000 in
theorem shiftOf_down (a : Int) (k : Nat) (h0 : 0 ≤ a) (h1 : a < 4294967296) (hk : k < 32) (w : World) :
    Calls Tryz.prog 102 #[.int .u8 62, .int .u32 a, .int .u32 (k : Int)] w fun e w' => e = .returned (.int .u32 (a / p2 k)) ∧ w = w' := by
  have hk1 : (k : Int) % 32 = k := by omega
  have HK := Lib.hid hk1
  go_enter Tryz.func102, Tryz.ntmps102
  go_wp2_with fail
  go_loop [7, 8] (fun p i => ∃ j : Nat, j ≤ k ∧ p = .int .i64 (p2 j) ∧ i = .int .u32 (j : Int)) (fun _ i => k - (intOf i).toNat)
  case atStart => exact ⟨0, Nat.zero_le _, rfl, rfl⟩
  case round =>
    obtain ⟨j, hj, rfl, rfl⟩ := hrel
    have hp := p2_pos j
    have hp1 := p2_31 (k := j) (by omega)
    by_cases hlt : j < k
    · have HS := Lib.hid (p2_succ j)
      go_wp2
      go_round
      case rel => exact ⟨j + 1, by omega, by rw [HS.out], by go_num⟩
      case measure => simp [intOf]; omega
    · obtain rfl : j = k := by omega
      have hq0 : 0 ≤ a / p2 j := Int.ediv_nonneg h0 (by omega)
      have hq1 : a / p2 j ≤ a := Int.ediv_le_self _ h0
      have hq2 : a / p2 j % 4294967296 = a / p2 j := by omega
      have HQ := Lib.hid hq2
      clear hq2
      go_wp2_with (go_at_call 101; refine (word_any _ (by omega) (by omega) _).mono ?_; rintro e w' ⟨rfl, rfl⟩)
      go_ret
      exact ⟨ret_int HQ.out, rfl⟩
theorem up_bound (a p : Int) (h0 : 0 ≤ a) (hp : 1 ≤ p) (hp1 : p ≤ 2147483648) : 1 ≤ 4294967296 / p ∧ 0 ≤ a % (4294967296 / p) ∧ a % (4294967296 / p) ≤ a ∧ 0 ≤ a % (4294967296 / p) * p ∧ a % (4294967296 / p) * p < 4294967296 ∧ 4294967296 / p ≤ 4294967296 := by
  have hm : 1 ≤ 4294967296 / p := (Int.le_ediv_iff_mul_le (by omega)).2 (by omega)
  have hr0 : 0 ≤ a % (4294967296 / p) := Int.emod_nonneg _ (by omega)
  have hr1 : a % (4294967296 / p) < 4294967296 / p := Int.emod_lt_of_pos _ (by omega)
  have hd : 4294967296 / p * p ≤ 4294967296 := Int.ediv_mul_le _ (by omega)
  have h2 : a % (4294967296 / p) * p < 4294967296 / p * p := Int.mul_lt_mul_of_pos_right hr1 (by omega)
  have h3 : 4294967296 / p ≤ 4294967296 := Int.ediv_le_self _ (by decide)
  refine ⟨hm, hr0, ?_, Int.mul_nonneg hr0 (by omega), by omega, h3⟩
  have e := Int.mul_ediv_add_emod a (4294967296 / p)
  have n := Int.mul_nonneg (show 0 ≤ 4294967296 / p by omega) (Int.ediv_nonneg h0 (show 0 ≤ 4294967296 / p by omega))
  omega
set_option maxHeartbeats 400000 in
theorem shiftOf_up (a : Int) (k : Nat) (h0 : 0 ≤ a) (h1 : a < 4294967296) (hk : k < 32) (w : World) :
    Calls Tryz.prog 102 #[.int .u8 60, .int .u32 a, .int .u32 (k : Int)] w fun e w' => e = .returned (.int .u32 (a % (4294967296 / p2 k) * p2 k)) ∧ w = w' := by
  go_enter Tryz.func102, Tryz.ntmps102
  go_wp2_with fail
  go_loop [7, 8] (fun p i => ∃ j : Nat, j ≤ k ∧ p = .int .i64 (p2 j) ∧ i = .int .u32 (j : Int)) (fun _ i => k - (intOf i).toNat)
  case atStart => exact ⟨0, Nat.zero_le _, rfl, rfl⟩
  case round =>
    obtain ⟨j, hj, rfl, rfl⟩ := hrel
    have hp := p2_pos j
    have hp1 := p2_31 (k := j) (by omega)
    by_cases hlt : j < k
    · have HS := Lib.hid (p2_succ j)
      go_wp2
      go_round
      case rel => exact ⟨j + 1, by omega, by rw [HS.out], by go_num⟩
      case measure => simp [intOf]; omega
    · obtain rfl : j = k := by omega
      obtain ⟨b1, b2, b3, b4, b5, b6⟩ := up_bound a (p2 j) h0 hp hp1
      have hq2 : a % (4294967296 / p2 j) * p2 j % 4294967296 = a % (4294967296 / p2 j) * p2 j := by omega
      have HQ := Lib.hid hq2
      clear hq2
      go_wp2_with (go_at_call 101; refine (word_any _ (by omega) (by omega) _).mono ?_; rintro e w' ⟨rfl, rfl⟩)
      go_ret
      exact ⟨ret_int HQ.out, rfl⟩
theorem one_up (k : Nat) (hk : k < 32) : 1 % (4294967296 / p2 k) * p2 k = p2 k := by
  have hp := p2_pos k
  have hp1 := p2_31 (k := k) (by omega)
  have hm : 2 ≤ 4294967296 / p2 k := (Int.le_ediv_iff_mul_le (by omega)).2 (by omega)
  rw [Int.emod_eq_of_lt (by decide) (by omega)]
  omega
theorem part_any (x : Int) (u b : Nat) (h0 : 0 ≤ x) (h1 : x < 4294967296) (hu : u < 32) (hb : b < 32) (w : World) :
    Calls Tryz.prog 100 #[.int .u32 x, .int .i64 (u : Int), .int .i64 (b : Int)] w fun e w' => e = .returned (.int .i64 (x / p2 u % p2 b)) ∧ w = w' := by
  have hp := p2_pos u
  have hq := p2_pos b
  have hq1 := p2_31 (k := b) (by omega)
  have d0 : 0 ≤ x / p2 u := Int.ediv_nonneg h0 (by omega)
  have d1 : x / p2 u ≤ x := Int.ediv_le_self _ h0
  have HB := Lib.hid (one_up b hb)
  go_enter Tryz.func100, Tryz.ntmps100
  go_wp2_with fail
  refine (shiftOf_down x u h0 h1 hu _).mono ?_
  rintro e w' ⟨rfl, rfl⟩
  go_wp2_with fail
  refine (shiftOf_up 1 b (by decide) (by decide) hb _).mono ?_
  rintro e w' ⟨rfl, rfl⟩
  rw [HB.out]
  go_wp2
  go_ret
  exact ⟨rfl, rfl⟩
end Go.Proofs.YtadoaldnjnkhgaaGreatDoor
namespace Go.Proofs.YtadoaldnjnkhgaaGreatDoor
open Go.RowKit
theorem signed_val (a : Int) (h0 : 0 ≤ a) (h1 : a < 4294967296) (w : World) :
    Calls Tryz.prog 93 #[.int .u32 a] w fun e w' => e = .returned (.int .i64 (wrap32 a)) ∧ w = w' := by
  by_cases h : 2147483648 ≤ a
  · have HE : Hid (wrap32 a = a - 4294967296) := by show _ = _; unfold wrap32; omega
    go_enter Tryz.func93, Tryz.ntmps93
    go_wp2
    go_ret
    exact ⟨(by rw [HE.out]; try rfl), rfl⟩
  · have h' : a < 2147483648 := by omega
    have HE : Hid (wrap32 a = a) := by show _ = _; unfold wrap32; omega
    go_enter Tryz.func93, Tryz.ntmps93
    go_wp2
    go_ret
    exact ⟨(by rw [HE.out]; try rfl), rfl⟩
theorem wrap32_range (a : Int) : -2147483648 ≤ wrap32 a ∧ wrap32 a < 2147483648 := by unfold wrap32; omega
theorem isSigned_any (n : Int) (w : World) :
    Calls Tryz.prog 92 #[.int .i64 n] w fun e w' => e = .returned (.bool (fitsZ n)) ∧ w = w' := by
  by_cases h1 : -2147483648 ≤ n
  · by_cases h2 : n < 2147483648
    · have HE : Hid (fitsZ n = true) := decide_eq_true ⟨h1, h2⟩
      go_enter Tryz.func92, Tryz.ntmps92
      go_wp2
      go_ret
      exact ⟨(by rw [HE.out]; try rfl), rfl⟩
    · have HE : Hid (fitsZ n = false) := decide_eq_false (fun h => h2 h.2)
      have h2' : 2147483648 ≤ n := by omega
      go_enter Tryz.func92, Tryz.ntmps92
      go_wp2
      go_ret
      exact ⟨(by rw [HE.out]; try rfl), rfl⟩
  · have HE : Hid (fitsZ n = false) := decide_eq_false (fun h => h1 h.1)
    have h1' : n < -2147483648 := by omega
    go_enter Tryz.func92, Tryz.ntmps92
    go_wp2
    go_ret
    exact ⟨(by rw [HE.out]; try rfl), rfl⟩
theorem bit_any (b : Bool) (w : World) :
    Calls Tryz.prog 131 #[.bool b] w fun e w' => e = .returned (.int .u32 (bitZ b)) ∧ w = w' := by
  cases b
  all_goals
    go_enter Tryz.func131, Tryz.ntmps131
    go_wp2
    go_ret
    exact ⟨rfl, rfl⟩
theorem less_u (a b : Int) (w : World) :
    Calls Tryz.prog 132 #[.int .u32 a, .int .u32 b, .bool false] w fun e w' => e = .returned (.bool (decide (a < b))) ∧ w = w' := by
  go_enter Tryz.func132, Tryz.ntmps132
  go_wp2
  go_ret
  exact ⟨rfl, rfl⟩
theorem less_s (a b : Int) (a0 : 0 ≤ a) (a1 : a < 4294967296) (b0 : 0 ≤ b) (b1 : b < 4294967296) (w : World) :
    Calls Tryz.prog 132 #[.int .u32 a, .int .u32 b, .bool true] w fun e w' => e = .returned (.bool (decide (wrap32 a < wrap32 b))) ∧ w = w' := by
  have HA := Lib.hid (fun wx => signed_val a a0 a1 wx)
  have HB := Lib.hid (fun wx => signed_val b b0 b1 wx)
  generalize wrap32 a = A at *
  generalize wrap32 b = B at *
  go_enter Tryz.func132, Tryz.ntmps132
  go_wp2_with fail
  refine (HA.out _).mono ?_
  rintro e w1 ⟨rfl, rfl⟩
  go_wp2_with fail
  refine (HB.out _).mono ?_
  rintro e w2 ⟨rfl, rfl⟩
  go_wp2
  go_ret
  exact ⟨rfl, rfl⟩
/-! Products. -/
theorem mul_range (x y : Int) (x0 : 0 ≤ x) (x1 : x ≤ 4294967295) (y0 : 0 ≤ y) (y1 : y ≤ 65535) : 0 ≤ x * y ∧ x * y ≤ 281470681677825 := by
  refine ⟨Int.mul_nonneg x0 y0, ?_⟩
  have h1 := Int.mul_le_mul_of_nonneg_right x1 y0
  omega
theorem mul_halves (x y : Int) : x * y = x * (y % 65536) + x * (y / 65536) * 65536 := by
  have h : y = y % 65536 + y / 65536 * 65536 := by omega
  calc x * y = x * (y % 65536 + y / 65536 * 65536) := by rw [← h]
    _ = _ := by rw [Int.mul_add, Int.mul_assoc]
structure Halves (x y p q : Int) : Prop where
  p0 : 0 ≤ p
  p1 : p ≤ 281470681677825
  q0 : 0 ≤ q
  q1 : q ≤ 281470681677825
  eq : x * y = p + q * 65536
theorem Halves.of {x y : Int} (x0 : 0 ≤ x) (x1 : x ≤ 4294967295) (y0 : 0 ≤ y) (y1 : y ≤ 4294967295) : Halves x y (x * (y % 65536)) (x * (y / 65536)) := by
  obtain ⟨a, b⟩ := mul_range x (y % 65536) x0 x1 (by omega) (by omega)
  obtain ⟨c, d⟩ := mul_range x (y / 65536) x0 x1 (by omega) (by omega)
  exact ⟨a, b, c, d, mul_halves x y⟩
theorem Halves.hi {x y p q : Int} (h : Halves x y p q) : p / 4294967296 + q / 65536 + (p % 4294967296 + q % 65536 * 65536) / 4294967296 = x * y / 4294967296 ∧ (p % 4294967296 + q % 65536 * 65536) % 4294967296 = x * y % 4294967296 := by
  obtain ⟨p0, p1, q0, q1, e⟩ := h
  rw [e]
  omega
theorem mul_sq (x y : Int) (x0 : 0 ≤ x) (x1 : x ≤ 4294967295) (y0 : 0 ≤ y) (y1 : y ≤ 4294967295) : 0 ≤ x * y ∧ x * y ≤ 18446744065119617025 := by
  refine ⟨Int.mul_nonneg x0 y0, ?_⟩
  have h1 := Int.mul_le_mul_of_nonneg_right x1 y0
  omega
theorem ret_two {k l : IntKind} {a b c d : Int} (h : a = c) (h2 : b = d) : Ending.returned (.tuple #[.int k a, .int l b]) = .returned (.tuple #[.int k c, .int l d]) := by rw [h, h2]
set_option maxHeartbeats 1000000 in
theorem mulOf_u (a b : Int) (a0 : 0 ≤ a) (a1 : a < 4294967296) (b0 : 0 ≤ b) (b1 : b < 4294967296) (w : World) :
    Calls Tryz.prog 133 #[.int .u32 a, .int .u32 b, .bool false] w fun e w' => e = .returned (.tuple #[.int .u32 (mulZ a b false).1, .int .u32 (mulZ a b false).2]) ∧ w = w' := by
  have hH := Halves.of a0 (by omega) b0 (show b ≤ 4294967295 by omega)
  have HV := Lib.hid hH.hi
  have HQ := Lib.hid (mul_sq a b a0 (by omega) b0 (by omega))
  obtain ⟨p0, p1, q0, q1, _⟩ := hH
  have HM : Hid (mulZ a b false = (a * b / 4294967296 % 4294967296, a * b % 4294967296)) := rfl
  go_enter Tryz.func133, Tryz.ntmps133
  go_wp2
  go_ret2
  have hv := HV.out
  have hq := HQ.out
  rw [HM.out]
  refine ⟨ret_two ?_ ?_, rfl⟩
  · rw [hv.1]
    show _ = a * b / 4294967296 % 4294967296
    omega
  · show _ = a * b % 4294967296
    rw [← hv.2]
    omega
structure Prod (x y p q L h lo : Int) : Prop where
  hp : x * (y % 65536) = p
  hq : x * (y / 65536) = q
  hL : p % 4294967296 + q % 65536 * 65536 = L
  hh : p / 4294967296 + q / 65536 + L / 4294967296 = h
  hlo : L % 4294967296 = lo
  p0 : 0 ≤ p
  p1 : p ≤ 281470681677825
  q0 : 0 ≤ q
  q1 : q ≤ 281470681677825
  L0 : 0 ≤ L
  L1 : L ≤ 8589869055
  h0 : 0 ≤ h
  h1 : h < 4294967296
  l0 : 0 ≤ lo
  l1 : lo < 4294967296
  eh : h = x * y / 4294967296
  el : lo = x * y % 4294967296
theorem Prod.of {x y : Int} (x0 : 0 ≤ x) (x1 : x ≤ 4294967295) (y0 : 0 ≤ y) (y1 : y ≤ 4294967295) : ∃ p q L h lo, Prod x y p q L h lo := by
  have hH := Halves.of x0 x1 y0 y1
  have HV := hH.hi
  have HQ := mul_sq x y x0 x1 y0 y1
  obtain ⟨p0, p1, q0, q1, _⟩ := hH
  refine ⟨_, _, _, _, _, rfl, rfl, rfl, rfl, rfl, p0, p1, q0, q1, ?_, ?_, ?_, ?_, ?_, ?_, HV.1, HV.2⟩ <;> omega
theorem mul_minus (P : Int) (h0 : 0 ≤ P) (h1 : P ≤ 18446744065119617025) : (P / 4294967296 = 0 → P % 4294967296 = 0 → (-P) / 4294967296 % 4294967296 = 0 ∧ (-P) % 4294967296 = 0) ∧
    (0 < P % 4294967296 → (-P) / 4294967296 % 4294967296 = (8589934591 - P / 4294967296) % 4294967296 ∧ (-P) % 4294967296 = (4294967296 - P % 4294967296) % 4294967296) ∧
    (P % 4294967296 = 0 → 0 < P / 4294967296 → (-P) / 4294967296 % 4294967296 = ((8589934591 - P / 4294967296) % 4294967296 + 1) % 4294967296 ∧ (-P) % 4294967296 = 0) := by
  refine ⟨?_, ?_, ?_⟩ <;> intros <;> omega
set_option maxHeartbeats 1000000 in
theorem mulOf_pp (a b x y : Int) (a0 : 0 ≤ a) (a1 : a < 4294967296) (b0 : 0 ≤ b) (b1 : b < 4294967296) (x0 : 0 ≤ x) (x1 : x ≤ 2147483648) (y0 : 0 ≤ y) (y1 : y ≤ 2147483648) (ha : wrap32 a = x) (hb : wrap32 b = y) (w : World) :
    Calls Tryz.prog 133 #[.int .u32 a, .int .u32 b, .bool true] w fun e w' => e = .returned (.tuple #[.int .u32 (mulZ a b true).1, .int .u32 (mulZ a b true).2]) ∧ w = w' := by
  have HA := Lib.hid (fun wx => signed_val a a0 a1 wx)
  have HB := Lib.hid (fun wx => signed_val b b0 b1 wx)
  rw [ha] at HA
  rw [hb] at HB
  have HM : Hid (mulZ a b true = ((x) * (y) / 4294967296 % 4294967296, (x) * (y) % 4294967296)) := by
    show _ = _
    rw [← ha, ← hb]
    rfl
  obtain ⟨p, q, L, h, lo, hP⟩ := Prod.of (x := x) (y := y) (by omega) (by omega) (by omega) (by omega)
  have HQ := Lib.hid (mul_sq x y (by omega) (by omega) (by omega) (by omega))
  have hx : decide (x < 0) = false := decide_eq_false (by omega)
  have hy : decide (y < 0) = false := decide_eq_false (by omega)
  have HP := Lib.hid hP
  clear ha hb hP
  go_enter Tryz.func133, Tryz.ntmps133
  go_wp2_with fail
  refine (HA.out _).mono ?_
  rintro e w1 ⟨rfl, rfl⟩
  go_wp2_with fail
  refine (HB.out _).mono ?_
  rintro e w1 ⟨rfl, rfl⟩
  obtain ⟨hp, hq, hL, hh, hlo, p0, p1, q0, q1, L0, L1, h0, h1, l0, l1, e1, e2⟩ := HP.out
  clear e1 e2
  go_wp2
  all_goals
    go_ret2
    have eh := HP.out.eh
    have el := HP.out.el
    have hQ := HQ.out
    rw [HM.out]
    refine ⟨ret_two ?_ ?_, rfl⟩
    · show _ = x * y / 4294967296 % 4294967296
      try omega
    · show _ = x * y % 4294967296
      try omega
set_option maxHeartbeats 1000000 in
theorem mulOf_pn (a b x y : Int) (a0 : 0 ≤ a) (a1 : a < 4294967296) (b0 : 0 ≤ b) (b1 : b < 4294967296) (x0 : 0 ≤ x) (x1 : x ≤ 2147483648) (y0 : 0 < y) (y1 : y ≤ 2147483648) (ha : wrap32 a = x) (hb : wrap32 b = -y) (w : World) :
    Calls Tryz.prog 133 #[.int .u32 a, .int .u32 b, .bool true] w fun e w' => e = .returned (.tuple #[.int .u32 (mulZ a b true).1, .int .u32 (mulZ a b true).2]) ∧ w = w' := by
  have HA := Lib.hid (fun wx => signed_val a a0 a1 wx)
  have HB := Lib.hid (fun wx => signed_val b b0 b1 wx)
  rw [ha] at HA
  rw [hb] at HB
  have HM : Hid (mulZ a b true = ((x) * (-y) / 4294967296 % 4294967296, (x) * (-y) % 4294967296)) := by
    show _ = _
    rw [← ha, ← hb]
    rfl
  obtain ⟨p, q, L, h, lo, hP⟩ := Prod.of (x := x) (y := y) (by omega) (by omega) (by omega) (by omega)
  have HQ := Lib.hid (mul_sq x y (by omega) (by omega) (by omega) (by omega))
  have hx : decide (x < 0) = false := decide_eq_false (by omega)
  have hy : decide (-y < 0) = true := decide_eq_true (by omega)
  have HP := Lib.hid hP
  have HN := Lib.hid (mul_minus (x * y) HQ.out.1 HQ.out.2)
  clear ha hb hP
  rcases (show (h = 0 ∧ lo = 0) ∨ (0 < lo) ∨ (lo = 0 ∧ 0 < h) by have := HP.out.h0; have := HP.out.l0; omega) with ⟨hz, lz⟩ | lz | ⟨lz, hz⟩
  · subst hz lz
    go_enter Tryz.func133, Tryz.ntmps133
    go_wp2_with fail
    refine (HA.out _).mono ?_
    rintro e w1 ⟨rfl, rfl⟩
    go_wp2_with fail
    refine (HB.out _).mono ?_
    rintro e w1 ⟨rfl, rfl⟩
    obtain ⟨hp, hq, hL, hh, hlo, p0, p1, q0, q1, L0, L1, h0, h1, l0, l1, e1, e2⟩ := HP.out
    clear e1 e2
    go_wp2
    all_goals
      go_ret2
      have eh := HP.out.eh
      have el := HP.out.el
      have hQ := HQ.out
      have hm := HM.out
      rw [Int.mul_neg] at hm
      have hn := HN.out.1 eh.symm el.symm
      rw [hm]
      refine ⟨ret_two ?_ ?_, rfl⟩
      · show _ = -(x * y) / 4294967296 % 4294967296
        rw [hn.1]
        try omega
      · show _ = -(x * y) % 4294967296
        rw [hn.2]
        try omega
  · have lz2 : (4294967296 - lo) % 4294967296 = 4294967296 - lo := by have := HP.out.l1; omega
    have lz3 : (4294967296 - lo == 0) = false := by have := HP.out.l1; simp only [beq_eq_false_iff_ne, ne_eq]; omega
    have lz4 : decide (0 < lo) = true := decide_eq_true lz
    go_enter Tryz.func133, Tryz.ntmps133
    go_wp2_with fail
    refine (HA.out _).mono ?_
    rintro e w1 ⟨rfl, rfl⟩
    go_wp2_with fail
    refine (HB.out _).mono ?_
    rintro e w1 ⟨rfl, rfl⟩
    obtain ⟨hp, hq, hL, hh, hlo, p0, p1, q0, q1, L0, L1, h0, h1, l0, l1, e1, e2⟩ := HP.out
    clear e1 e2
    go_wp2
    all_goals
      go_ret2
      have eh := HP.out.eh
      have el := HP.out.el
      have hQ := HQ.out
      have hm := HM.out
      rw [Int.mul_neg] at hm
      have hn := HN.out.2.1 (by omega)
      rw [hm]
      refine ⟨ret_two ?_ ?_, rfl⟩
      · show _ = -(x * y) / 4294967296 % 4294967296
        rw [hn.1]
        try omega
      · show _ = -(x * y) % 4294967296
        rw [hn.2]
        try omega
  · subst lz
    have hz2 : decide (0 < h) = true := decide_eq_true hz
    go_enter Tryz.func133, Tryz.ntmps133
    go_wp2_with fail
    refine (HA.out _).mono ?_
    rintro e w1 ⟨rfl, rfl⟩
    go_wp2_with fail
    refine (HB.out _).mono ?_
    rintro e w1 ⟨rfl, rfl⟩
    obtain ⟨hp, hq, hL, hh, hlo, p0, p1, q0, q1, L0, L1, h0, h1, l0, l1, e1, e2⟩ := HP.out
    clear e1 e2
    go_wp2
    all_goals
      go_ret2
      have eh := HP.out.eh
      have el := HP.out.el
      have hQ := HQ.out
      have hm := HM.out
      rw [Int.mul_neg] at hm
      have hn := HN.out.2.2 el.symm (by omega)
      rw [hm]
      refine ⟨ret_two ?_ ?_, rfl⟩
      · show _ = -(x * y) / 4294967296 % 4294967296
        rw [hn.1]
        try omega
      · show _ = -(x * y) % 4294967296
        rw [hn.2]
        try omega
set_option maxHeartbeats 1000000 in
theorem mulOf_np (a b x y : Int) (a0 : 0 ≤ a) (a1 : a < 4294967296) (b0 : 0 ≤ b) (b1 : b < 4294967296) (x0 : 0 < x) (x1 : x ≤ 2147483648) (y0 : 0 ≤ y) (y1 : y ≤ 2147483648) (ha : wrap32 a = -x) (hb : wrap32 b = y) (w : World) :
    Calls Tryz.prog 133 #[.int .u32 a, .int .u32 b, .bool true] w fun e w' => e = .returned (.tuple #[.int .u32 (mulZ a b true).1, .int .u32 (mulZ a b true).2]) ∧ w = w' := by
  have HA := Lib.hid (fun wx => signed_val a a0 a1 wx)
  have HB := Lib.hid (fun wx => signed_val b b0 b1 wx)
  rw [ha] at HA
  rw [hb] at HB
  have HM : Hid (mulZ a b true = ((-x) * (y) / 4294967296 % 4294967296, (-x) * (y) % 4294967296)) := by
    show _ = _
    rw [← ha, ← hb]
    rfl
  obtain ⟨p, q, L, h, lo, hP⟩ := Prod.of (x := x) (y := y) (by omega) (by omega) (by omega) (by omega)
  have HQ := Lib.hid (mul_sq x y (by omega) (by omega) (by omega) (by omega))
  have hx : decide (-x < 0) = true := decide_eq_true (by omega)
  have hy : decide (y < 0) = false := decide_eq_false (by omega)
  have HP := Lib.hid hP
  have HN := Lib.hid (mul_minus (x * y) HQ.out.1 HQ.out.2)
  clear ha hb hP
  rcases (show (h = 0 ∧ lo = 0) ∨ (0 < lo) ∨ (lo = 0 ∧ 0 < h) by have := HP.out.h0; have := HP.out.l0; omega) with ⟨hz, lz⟩ | lz | ⟨lz, hz⟩
  · subst hz lz
    go_enter Tryz.func133, Tryz.ntmps133
    go_wp2_with fail
    refine (HA.out _).mono ?_
    rintro e w1 ⟨rfl, rfl⟩
    go_wp2_with fail
    refine (HB.out _).mono ?_
    rintro e w1 ⟨rfl, rfl⟩
    obtain ⟨hp, hq, hL, hh, hlo, p0, p1, q0, q1, L0, L1, h0, h1, l0, l1, e1, e2⟩ := HP.out
    clear e1 e2
    go_wp2
    all_goals
      go_ret2
      have eh := HP.out.eh
      have el := HP.out.el
      have hQ := HQ.out
      have hm := HM.out
      rw [Int.neg_mul] at hm
      have hn := HN.out.1 eh.symm el.symm
      rw [hm]
      refine ⟨ret_two ?_ ?_, rfl⟩
      · show _ = -(x * y) / 4294967296 % 4294967296
        rw [hn.1]
        try omega
      · show _ = -(x * y) % 4294967296
        rw [hn.2]
        try omega
  · have lz2 : (4294967296 - lo) % 4294967296 = 4294967296 - lo := by have := HP.out.l1; omega
    have lz3 : (4294967296 - lo == 0) = false := by have := HP.out.l1; simp only [beq_eq_false_iff_ne, ne_eq]; omega
    have lz4 : decide (0 < lo) = true := decide_eq_true lz
    go_enter Tryz.func133, Tryz.ntmps133
    go_wp2_with fail
    refine (HA.out _).mono ?_
    rintro e w1 ⟨rfl, rfl⟩
    go_wp2_with fail
    refine (HB.out _).mono ?_
    rintro e w1 ⟨rfl, rfl⟩
    obtain ⟨hp, hq, hL, hh, hlo, p0, p1, q0, q1, L0, L1, h0, h1, l0, l1, e1, e2⟩ := HP.out
    clear e1 e2
    go_wp2
    all_goals
      go_ret2
      have eh := HP.out.eh
      have el := HP.out.el
      have hQ := HQ.out
      have hm := HM.out
      rw [Int.neg_mul] at hm
      have hn := HN.out.2.1 (by omega)
      rw [hm]
      refine ⟨ret_two ?_ ?_, rfl⟩
      · show _ = -(x * y) / 4294967296 % 4294967296
        rw [hn.1]
        try omega
      · show _ = -(x * y) % 4294967296
        rw [hn.2]
        try omega
  · subst lz
    have hz2 : decide (0 < h) = true := decide_eq_true hz
    go_enter Tryz.func133, Tryz.ntmps133
    go_wp2_with fail
    refine (HA.out _).mono ?_
    rintro e w1 ⟨rfl, rfl⟩
    go_wp2_with fail
    refine (HB.out _).mono ?_
    rintro e w1 ⟨rfl, rfl⟩
    obtain ⟨hp, hq, hL, hh, hlo, p0, p1, q0, q1, L0, L1, h0, h1, l0, l1, e1, e2⟩ := HP.out
    clear e1 e2
    go_wp2
    all_goals
      go_ret2
      have eh := HP.out.eh
      have el := HP.out.el
      have hQ := HQ.out
      have hm := HM.out
      rw [Int.neg_mul] at hm
      have hn := HN.out.2.2 el.symm (by omega)
      rw [hm]
      refine ⟨ret_two ?_ ?_, rfl⟩
      · show _ = -(x * y) / 4294967296 % 4294967296
        rw [hn.1]
        try omega
      · show _ = -(x * y) % 4294967296
        rw [hn.2]
        try omega
set_option maxHeartbeats 1000000 in
theorem mulOf_nn (a b x y : Int) (a0 : 0 ≤ a) (a1 : a < 4294967296) (b0 : 0 ≤ b) (b1 : b < 4294967296) (x0 : 0 < x) (x1 : x ≤ 2147483648) (y0 : 0 < y) (y1 : y ≤ 2147483648) (ha : wrap32 a = -x) (hb : wrap32 b = -y) (w : World) :
    Calls Tryz.prog 133 #[.int .u32 a, .int .u32 b, .bool true] w fun e w' => e = .returned (.tuple #[.int .u32 (mulZ a b true).1, .int .u32 (mulZ a b true).2]) ∧ w = w' := by
  have HA := Lib.hid (fun wx => signed_val a a0 a1 wx)
  have HB := Lib.hid (fun wx => signed_val b b0 b1 wx)
  rw [ha] at HA
  rw [hb] at HB
  have HM : Hid (mulZ a b true = ((-x) * (-y) / 4294967296 % 4294967296, (-x) * (-y) % 4294967296)) := by
    show _ = _
    rw [← ha, ← hb]
    rfl
  obtain ⟨p, q, L, h, lo, hP⟩ := Prod.of (x := x) (y := y) (by omega) (by omega) (by omega) (by omega)
  have HQ := Lib.hid (mul_sq x y (by omega) (by omega) (by omega) (by omega))
  have hx : decide (-x < 0) = true := decide_eq_true (by omega)
  have hy : decide (-y < 0) = true := decide_eq_true (by omega)
  have HP := Lib.hid hP
  clear ha hb hP
  go_enter Tryz.func133, Tryz.ntmps133
  go_wp2_with fail
  refine (HA.out _).mono ?_
  rintro e w1 ⟨rfl, rfl⟩
  go_wp2_with fail
  refine (HB.out _).mono ?_
  rintro e w1 ⟨rfl, rfl⟩
  obtain ⟨hp, hq, hL, hh, hlo, p0, p1, q0, q1, L0, L1, h0, h1, l0, l1, e1, e2⟩ := HP.out
  clear e1 e2
  go_wp2
  all_goals
    go_ret2
    have eh := HP.out.eh
    have el := HP.out.el
    have hQ := HQ.out
    have hm := HM.out
    rw [Int.neg_mul_neg] at hm
    rw [hm]
    refine ⟨ret_two ?_ ?_, rfl⟩
    · show _ = x * y / 4294967296 % 4294967296
      try omega
    · show _ = x * y % 4294967296
      try omega
end Go.Proofs.YtadoaldnjnkhgaaGreatDoor
namespace Go.Proofs.YtadoaldnjnkhgaaGreatDoor
open Go.RowKit
theorem plusC_any (a b : Int) (a0 : 0 ≤ a) (a1 : a < 4294967296) (b0 : 0 ≤ b) (b1 : b < 4294967296) (w : World) :
    Calls Tryz.prog 63 #[.int .u32 a, .int .u32 b] w fun e w' => e = .returned (.int .u32 ((a + b) % 4294967296)) ∧ w = w' := by
  go_enter Tryz.func63, Tryz.ntmps63
  go_wp2_with fail
  refine (word_any _ (by omega) (by omega) _).mono ?_
  rintro e w1 ⟨rfl, rfl⟩
  go_wp2
  go_ret
  exact ⟨rfl, rfl⟩
theorem plusH_any (a b : Int) (a0 : 0 ≤ a) (a1 : a < 4294967296) (b0 : 0 ≤ b) (b1 : b < 4294967296) (w : World) :
    Calls Tryz.prog 61 #[.int .u32 a, .int .u32 b] w fun e w' => e = .returned (.int .u32 ((a + b) % 4294967296)) ∧ w = w' := by
  go_enter Tryz.func61, Tryz.ntmps61
  go_wp2_with fail
  refine (word_any _ (by omega) (by omega) _).mono ?_
  rintro e w1 ⟨rfl, rfl⟩
  go_wp2
  go_ret
  exact ⟨rfl, rfl⟩
theorem divOf_0 (a : Int) (s : Bool) (w : World) :
    Calls Tryz.prog 97 #[.int .u32 a, .int .u32 0, .bool s] w fun e w' => e = .returned (.tuple #[.int .u32 0, .int .u32 0, .bool false]) ∧ w = w' := by
  go_enter Tryz.func97, Tryz.ntmps97
  go_wp2
  go_ret3
  exact ⟨rfl, rfl⟩
set_option maxHeartbeats 1000000 in
theorem divOf_u (a b : Int) (a0 : 0 ≤ a) (a1 : a < 4294967296) (b0 : 0 < b) (b1 : b < 4294967296) (w : World) :
    Calls Tryz.prog 97 #[.int .u32 a, .int .u32 b, .bool false] w fun e w' => e = .returned (.tuple #[.int .u32 (a / b), .int .u32 (a % b), .bool true]) ∧ Below w.heap.size w w' := by
  have hb : (b == 0) = false := by simp only [beq_eq_false_iff_ne, ne_eq]; omega
  have hb2 : ¬ b = 0 := by omega
  have q0 : 0 ≤ a / b := Int.ediv_nonneg a0 (by omega)
  have q1 : a / b ≤ a := Int.ediv_le_self _ a0
  have r0 : 0 ≤ a % b := Int.emod_nonneg _ hb2
  have r1 : a % b < b := Int.emod_lt_of_pos _ b0
  have HW := Lib.hid (fun wx => word_any (a / b) (by omega) (by omega) wx)
  have HW2 := Lib.hid (fun wx => word_any (a % b) (by omega) (by omega) wx)
  have e1 : a / b % 4294967296 = a / b := Int.emod_eq_of_lt q0 (by omega)
  have e2 : a % b % 4294967296 = a % b := Int.emod_eq_of_lt r0 (by omega)
  rw [e1] at HW
  rw [e2] at HW2
  have t1 : a.tdiv b = a / b := Int.tdiv_eq_ediv_of_nonneg a0
  have t2 : a.tmod b = a % b := Int.tmod_eq_emod_of_nonneg a0
  clear e1 e2 hb2
  go_enter Tryz.func97, Tryz.ntmps97
  go_wp2_with fail
  go_quiet (first | (go_at_call 101; (with_reducible refine (HW.out _).mono ?_); exact fun _ _ h => ⟨h.1, _, h.2.symm⟩) | (go_at_call 101; (with_reducible refine (HW2.out _).mono ?_); exact fun _ _ h => ⟨h.1, _, h.2.symm⟩))
  go_wp2
  go_ret3
  exact ⟨rfl, below_drewN (Below.refl _ _) _⟩
theorem tdiv_range (A B : Int) (h : -2147483648 ≤ A) (h2 : A ≤ 2147483647) : -2147483648 ≤ A.tdiv B ∧ A.tdiv B ≤ 2147483648 := by
  have := Int.natAbs_tdiv_le_natAbs A B
  omega
theorem tmod_range (A B : Int) (h : -2147483648 ≤ A) (h2 : A ≤ 2147483647) : -2147483648 ≤ A.tmod B ∧ A.tmod B ≤ 2147483648 := by
  have h3 := Int.natAbs_tmod A B
  have h4 := Nat.mod_le A.natAbs B.natAbs
  omega
set_option maxHeartbeats 1000000 in
theorem divOf_s (a b : Int) (a0 : 0 ≤ a) (a1 : a < 4294967296) (b0 : 0 < b) (b1 : b < 4294967296) (w : World) :
    Calls Tryz.prog 97 #[.int .u32 a, .int .u32 b, .bool true] w fun e w' => e = .returned (.tuple #[.int .u32 ((wrap32 a).tdiv (wrap32 b) % 4294967296), .int .u32 ((wrap32 a).tmod (wrap32 b) % 4294967296), .bool true]) ∧ Below w.heap.size w w' := by
  have hb : (b == 0) = false := by simp only [beq_eq_false_iff_ne, ne_eq]; omega
  have hB : (wrap32 b == 0) = false := by simp only [beq_eq_false_iff_ne, ne_eq]; unfold wrap32; omega
  have HA := Lib.hid (fun wx => signed_val a a0 a1 wx)
  have HB := Lib.hid (fun wx => signed_val b (by omega) b1 wx)
  have rA := wrap32_range a
  have rB := wrap32_range b
  generalize wrap32 a = A at *
  generalize wrap32 b = B at *
  have hB2 : ¬ B = 0 := by simpa using hB
  obtain ⟨A0, A1⟩ := rA
  obtain ⟨B0, B1⟩ := rB
  obtain ⟨q0, q1⟩ := tdiv_range A B A0 (by omega)
  obtain ⟨r0, r1⟩ := tmod_range A B A0 (by omega)
  have HW := Lib.hid (fun wx => word_any (A.tdiv B) (by omega) (by omega) wx)
  have HW2 := Lib.hid (fun wx => word_any (A.tmod B) (by omega) (by omega) wx)
  go_enter Tryz.func97, Tryz.ntmps97
  go_wp2_with fail
  iterate 6 (first
    | ((with_reducible refine (HA.out _).mono ?_); rintro e w1 ⟨rfl, rfl⟩; go_wp2_with fail)
    | ((with_reducible refine (HB.out _).mono ?_); rintro e w1 ⟨rfl, rfl⟩; go_wp2_with fail)
    | ((with_reducible refine (HW.out _).mono ?_); rintro e w1 ⟨rfl, rfl⟩; go_wp2_with fail)
    | ((with_reducible refine (HW2.out _).mono ?_); rintro e w1 ⟨rfl, rfl⟩; go_wp2_with fail))
  go_ret3
  exact ⟨rfl, Below.refl _ _⟩
/-! Shifts. -/
theorem shl_eq (a : Int) (k : Nat) (hk : k < 32) : a % (4294967296 / p2 k) * p2 k = a * p2 k % 4294967296 := by
  have hp := p2_pos k
  have e : (4294967296 : Int) = p2 (32 - k) * p2 k := by
    unfold p2
    rw [← Int.pow_add, show 32 - k + k = 32 by omega]
    rfl
  have e2 : (4294967296 : Int) / p2 k = p2 (32 - k) := by rw [e]; exact Int.mul_ediv_cancel _ (by omega)
  have h := Int.mul_emod_mul_of_pos (a := p2 k) a (p2 (32 - k)) (by omega)
  rw [e2, e, Int.mul_comm a, Int.mul_comm (p2 (32 - k)), h, Int.mul_comm]
theorem shl_val (a n : Int) (k : Nat) (hk : n % 32 = (k : Int)) : shlZ a n = a % (4294967296 / p2 k) * p2 k := by
  rw [shl_eq a k (by omega)]
  unfold shlZ p2
  rw [hk, Int.toNat_natCast]
theorem shr_val (a n : Int) (k : Nat) (hk : n % 32 = (k : Int)) : shrZ a n = a / p2 k := by
  unfold shrZ p2
  rw [hk, Int.toNat_natCast]
theorem sar_val (a n : Int) (k : Nat) (hk : n % 32 = (k : Int)) : sarZ a n = wrap32 a / p2 k % 4294967296 := by
  unfold sarZ p2
  rw [hk, Int.toNat_natCast]
set_option maxHeartbeats 400000 in
theorem shr_any (a n : Int) (h0 : 0 ≤ a) (h1 : a < 4294967296) (n0 : 0 ≤ n) (n1 : n < 4294967296) (w : World) :
    Calls Tryz.prog 102 #[.int .u8 62, .int .u32 a, .int .u32 n] w fun e w' => e = .returned (.int .u32 (shrZ a n)) ∧ w = w' := by
  obtain ⟨k, hk1⟩ : ∃ k : Nat, n % 32 = (k : Int) := ⟨(n % 32).toNat, by omega⟩
  have HV := Lib.hid (shr_val a n k hk1)
  have hk : k < 32 := by omega
  go_enter Tryz.func102, Tryz.ntmps102
  go_wp2_with fail
  go_loop [7, 8] (fun p i => ∃ j : Nat, j ≤ k ∧ p = .int .i64 (p2 j) ∧ i = .int .u32 (j : Int)) (fun _ i => k - (intOf i).toNat)
  case atStart => exact ⟨0, Nat.zero_le _, rfl, rfl⟩
  case round =>
    obtain ⟨j, hj, rfl, rfl⟩ := hrel
    have hp := p2_pos j
    have hp1 := p2_31 (k := j) (by omega)
    by_cases hlt : j < k
    · have HS := Lib.hid (p2_succ j)
      go_wp2
      go_round
      case rel => exact ⟨j + 1, by omega, by rw [HS.out], by go_num⟩
      case measure => simp [intOf]; omega
    · obtain rfl : j = k := by omega
      have hq0 : 0 ≤ a / p2 j := Int.ediv_nonneg h0 (by omega)
      have hq1 : a / p2 j ≤ a := Int.ediv_le_self _ h0
      have hq2 : a / p2 j % 4294967296 = a / p2 j := by omega
      have HQ := Lib.hid hq2
      clear hq2
      go_wp2_with (go_at_call 101; refine (word_any _ (by omega) (by omega) _).mono ?_; rintro e w' ⟨rfl, rfl⟩)
      go_ret
      exact ⟨ret_int (HQ.out.trans HV.out.symm), rfl⟩
set_option maxHeartbeats 400000 in
theorem shl_any (a n : Int) (h0 : 0 ≤ a) (h1 : a < 4294967296) (n0 : 0 ≤ n) (n1 : n < 4294967296) (w : World) :
    Calls Tryz.prog 102 #[.int .u8 60, .int .u32 a, .int .u32 n] w fun e w' => e = .returned (.int .u32 (shlZ a n)) ∧ w = w' := by
  obtain ⟨k, hk1⟩ : ∃ k : Nat, n % 32 = (k : Int) := ⟨(n % 32).toNat, by omega⟩
  have HV := Lib.hid (shl_val a n k hk1)
  have hk : k < 32 := by omega
  go_enter Tryz.func102, Tryz.ntmps102
  go_wp2_with fail
  go_loop [7, 8] (fun p i => ∃ j : Nat, j ≤ k ∧ p = .int .i64 (p2 j) ∧ i = .int .u32 (j : Int)) (fun _ i => k - (intOf i).toNat)
  case atStart => exact ⟨0, Nat.zero_le _, rfl, rfl⟩
  case round =>
    obtain ⟨j, hj, rfl, rfl⟩ := hrel
    have hp := p2_pos j
    have hp1 := p2_31 (k := j) (by omega)
    by_cases hlt : j < k
    · have HS := Lib.hid (p2_succ j)
      go_wp2
      go_round
      case rel => exact ⟨j + 1, by omega, by rw [HS.out], by go_num⟩
      case measure => simp [intOf]; omega
    · obtain rfl : j = k := by omega
      obtain ⟨b1, b2, b3, b4, b5, b6⟩ := up_bound a (p2 j) h0 hp hp1
      have hq2 : a % (4294967296 / p2 j) * p2 j % 4294967296 = a % (4294967296 / p2 j) * p2 j := by omega
      have HQ := Lib.hid hq2
      clear hq2
      go_wp2_with (go_at_call 101; refine (word_any _ (by omega) (by omega) _).mono ?_; rintro e w' ⟨rfl, rfl⟩)
      go_ret
      exact ⟨ret_int (HQ.out.trans HV.out.symm), rfl⟩
theorem sar_range (S p : Int) (s0 : -2147483648 ≤ S) (s1 : S < 2147483648) (hp : 1 ≤ p) : -2147483648 ≤ S.tdiv p ∧ S.tdiv p ≤ 2147483648 ∧ -2147483648 ≤ S.tmod p ∧ S.tmod p ≤ 2147483648 :=
  ⟨(tdiv_range S p s0 (by omega)).1, (tdiv_range S p s0 (by omega)).2, (tmod_range S p s0 (by omega)).1, (tmod_range S p s0 (by omega)).2⟩
theorem sar_floor (S p : Int) (hp : 1 ≤ p) : (0 ≤ S ∨ S.tmod p = 0 → S.tdiv p = S / p) ∧ (S < 0 → S.tmod p ≠ 0 → S.tdiv p - 1 = S / p) := by
  have h := Int.tdiv_eq_ediv (a := S) (b := p)
  rw [Int.sign_eq_one_of_pos (show 0 < p by omega)] at h
  refine ⟨fun h2 => ?_, fun h2 h3 => ?_⟩
  · rw [if_pos] at h
    · omega
    · rcases h2 with h2 | h2
      · exact Or.inl h2
      · exact Or.inr (Int.dvd_of_tmod_eq_zero h2)
  · rw [if_neg] at h
    · omega
    · rintro (h4 | h4)
      · omega
      · exact h3 (Int.tmod_eq_zero_of_dvd h4)
set_option maxHeartbeats 1000000 in
theorem sar_any (a n : Int) (h0 : 0 ≤ a) (h1 : a < 4294967296) (n0 : 0 ≤ n) (n1 : n < 4294967296) (w : World) :
    Calls Tryz.prog 102 #[.int .u8 126, .int .u32 a, .int .u32 n] w fun e w' => e = .returned (.int .u32 (sarZ a n)) ∧ w = w' := by
  obtain ⟨k, hk1⟩ : ∃ k : Nat, n % 32 = (k : Int) := ⟨(n % 32).toNat, by omega⟩
  have HV := Lib.hid (sar_val a n k hk1)
  have HA := Lib.hid (fun wx => signed_val a h0 h1 wx)
  have rA := wrap32_range a
  generalize wrap32 a = S at *
  obtain ⟨A0, A1⟩ := rA
  have hk : k < 32 := by omega
  go_enter Tryz.func102, Tryz.ntmps102
  go_wp2_with fail
  go_loop [7, 8] (fun p i => ∃ j : Nat, j ≤ k ∧ p = .int .i64 (p2 j) ∧ i = .int .u32 (j : Int)) (fun _ i => k - (intOf i).toNat)
  case atStart => exact ⟨0, Nat.zero_le _, rfl, rfl⟩
  case round =>
    obtain ⟨j, hj, rfl, rfl⟩ := hrel
    have hp := p2_pos j
    have hp1 := p2_31 (k := j) (by omega)
    by_cases hlt : j < k
    · have HS := Lib.hid (p2_succ j)
      go_wp2
      go_round
      case rel => exact ⟨j + 1, by omega, by rw [HS.out], by go_num⟩
      case measure => simp [intOf]; omega
    · obtain rfl : j = k := by omega
      obtain ⟨r0, r1, r2, r3⟩ := sar_range S (p2 j) A0 A1 hp
      obtain ⟨f1, f2⟩ := sar_floor S (p2 j) hp
      have F1 := Lib.hid f1
      have F2 := Lib.hid f2
      have hp0 : (p2 j == 0) = false := by simp only [beq_eq_false_iff_ne, ne_eq]; omega
      have hp2 : ¬ p2 j = 0 := by omega
      clear f1 f2
      go_wp2_with fail
      refine (HA.out _).mono ?_
      rintro e w1 ⟨rfl, rfl⟩
      by_cases hs : S < 0
      · by_cases hr : S.tmod (p2 j) = 0
        · have hd : (S.tmod (p2 j) != 0) = false := by rw [hr]; rfl
          go_wp2_with (go_at_call 101; refine (word_any _ (by omega) (by omega) _).mono ?_; rintro e w' ⟨rfl, rfl⟩)
          go_ret
          exact ⟨ret_int (by rw [F1.out (Or.inr hr)]; exact HV.out.symm), rfl⟩
        · have hd : (S.tmod (p2 j) != 0) = true := by simpa using hr
          go_wp2_with (go_at_call 101; refine (word_any _ (by omega) (by omega) _).mono ?_; rintro e w' ⟨rfl, rfl⟩)
          go_ret
          exact ⟨ret_int (by rw [F2.out hs hr]; exact HV.out.symm), rfl⟩
      · have hs2 : decide (S < 0) = false := decide_eq_false hs
        go_wp2_with (go_at_call 101; refine (word_any _ (by omega) (by omega) _).mono ?_; rintro e w' ⟨rfl, rfl⟩)
        go_ret
        exact ⟨ret_int (by rw [F1.out (Or.inl (by omega))]; exact HV.out.symm), rfl⟩
end Go.Proofs.YtadoaldnjnkhgaaGreatDoor
namespace Go.Proofs.YtadoaldnjnkhgaaGreatDoor
open Go.RowKit
theorem p2_32 {k : Nat} (h : k ≤ 32) : p2 k ≤ 4294967296 := p2_mono h
def wideK (v : Int) (k : Nat) (s : Bool) : Int := (if s = true ∧ p2 k ≤ 2 * (v % p2 k) then v % p2 k - p2 k else v % p2 k) % 4294967296
set_option maxHeartbeats 1000000 in
theorem wideK_any (v : Int) (k : Nat) (s : Bool) (h0 : 0 ≤ v) (h1 : v < 4294967296) (k0 : 1 ≤ k) (k1 : k ≤ 32) (w : World) :
    Calls Tryz.prog 129 #[.int .u32 v, .int .i64 (k : Int), .bool s] w fun e w' => e = .returned (.int .u32 (wideK v k s)) ∧ w = w' := by
  have c1 : decide ((k : Int) < 1) = false := decide_eq_false (by omega)
  have c2 : decide (32 < (k : Int)) = false := decide_eq_false (by omega)
  have hk0 : (1 : Int) ≤ (k : Int) := by omega
  have hk1 : (k : Int) ≤ 32 := by omega
  go_enter Tryz.func129, Tryz.ntmps129
  go_wp2_with fail
  go_loop [7, 8] (fun p i => ∃ j : Nat, j ≤ k ∧ p = .int .i64 (p2 j) ∧ i = .int .i64 (j : Int)) (fun _ i => k - (intOf i).toNat)
  case atStart => exact ⟨0, Nat.zero_le _, rfl, rfl⟩
  case round =>
    obtain ⟨j, hj, rfl, rfl⟩ := hrel
    have hp := p2_pos j
    have hp1 := p2_32 (k := j) (by omega)
    by_cases hlt : j < k
    · have HS := Lib.hid (p2_succ j)
      go_wp2
      go_round
      case rel => exact ⟨j + 1, by omega, by rw [HS.out], by go_num⟩
      case measure => simp [intOf]; omega
    · obtain rfl : j = k := by omega
      have hp2 : ¬ p2 j = 0 := by omega
      have m0 : 0 ≤ v % p2 j := Int.emod_nonneg _ (by omega)
      have m1 : v % p2 j < p2 j := Int.emod_lt_of_pos _ (by omega)
      have ht : v.tmod (p2 j) = v % p2 j := Int.tmod_eq_emod_of_nonneg h0
      cases s with
      | false =>
        have HV : Hid (wideK v j false = v % p2 j % 4294967296) := rfl
        go_wp2_with (go_at_call 101; refine (word_any _ (by omega) (by omega) _).mono ?_; rintro e w' ⟨rfl, rfl⟩)
        go_ret
        exact ⟨ret_int HV.out.symm, rfl⟩
      | true =>
        by_cases hc : p2 j ≤ 2 * (v % p2 j)
        · have HV : Hid (wideK v j true = (v % p2 j - p2 j) % 4294967296) := by
            show _ = _
            unfold wideK
            rw [if_pos ⟨rfl, hc⟩]
          go_wp2_with (go_at_call 101; refine (word_any _ (by omega) (by omega) _).mono ?_; rintro e w' ⟨rfl, rfl⟩)
          go_ret
          exact ⟨ret_int HV.out.symm, rfl⟩
        · have HV : Hid (wideK v j true = v % p2 j % 4294967296) := by
            show _ = _
            unfold wideK
            rw [if_neg (fun h => hc h.2)]
          have hc2 : decide (p2 j ≤ 2 * (v % p2 j)) = false := decide_eq_false hc
          go_wp2_with (go_at_call 101; refine (word_any _ (by omega) (by omega) _).mono ?_; rintro e w' ⟨rfl, rfl⟩)
          go_ret
          exact ⟨ret_int HV.out.symm, rfl⟩
theorem wideS_K (v : Int) : wideK v 16 true = wideS v := by
  unfold wideK wideS
  rw [show p2 16 = 65536 from rfl]
  simp
theorem wideZ_K (v : Int) (h0 : 0 ≤ v) (h1 : v < 4294967296) (n : Nat) (hn : n = 1 ∨ n = 2 ∨ n = 4) (s : Bool) (hs : n = 4 → s = false) : wideK v (8 * n) s = wideZ v n s := by
  unfold wideK wideZ
  rcases hn with rfl | rfl | rfl
  · refine Eq.trans ?_ (if_neg (show ¬ (1 : Nat) = 4 by decide)).symm
    rfl
  · refine Eq.trans ?_ (if_neg (show ¬ (2 : Nat) = 4 by decide)).symm
    rfl
  · rw [if_pos rfl, hs rfl]
    have e : p2 (8 * 4) = 4294967296 := rfl
    rw [e]
    simp
    omega
/-! Bits by a table. -/
theorem bitsN_step (t j x y o : Nat) (hj : j < 32) : o + 2 ^ j * bitsN t (32 - j) x y = o + 2 ^ j * (t / 2 ^ (2 * (x % 2) + y % 2) % 2) + 2 ^ (j + 1) * bitsN t (32 - (j + 1)) (x / 2) (y / 2) := by
  obtain ⟨m, hm⟩ : ∃ m, 32 - j = m + 1 := ⟨31 - j, by omega⟩
  have hm2 : 32 - (j + 1) = m := by omega
  rw [hm, hm2, show bitsN t (m + 1) x y = t / 2 ^ (2 * (x % 2) + y % 2) % 2 + 2 * bitsN t m (x / 2) (y / 2) from rfl]
  rw [Nat.mul_add, Nat.pow_succ, Nat.mul_assoc, Nat.add_assoc]
theorem div_pow2 (t i : Nat) : t / 2 ^ i / 2 = t / 2 ^ (i + 1) := by rw [Nat.div_div_eq_div_mul, Nat.pow_succ]
theorem pow_31 {j : Nat} (h : j < 32) : 2 ^ j ≤ 2147483648 := Nat.pow_le_pow_right (n := 2) (by decide) (show j ≤ 31 by omega)
structure BitsAt (t A B j x y o P : Nat) : Prop where
  j1 : j ≤ 32
  x1 : x < 4294967296
  y1 : y < 4294967296
  o1 : o < P
  p : P = 2 ^ j
  eq : o + P * bitsN t (32 - j) x y = bitsN t 32 A B
theorem BitsAt.next {t A B j x y o P : Nat} (h : BitsAt t A B j x y o P) (hj : j < 32) : BitsAt t A B (j + 1) (x / 2) (y / 2) (o + P * (t / 2 ^ (2 * (x % 2) + y % 2) % 2)) (2 * P) where
  j1 := by omega
  x1 := by have := h.x1; omega
  y1 := by have := h.y1; omega
  o1 := by
    have h1 := h.o1
    have h2 : t / 2 ^ (2 * (x % 2) + y % 2) % 2 < 2 := Nat.mod_lt _ (by decide)
    rcases (show t / 2 ^ (2 * (x % 2) + y % 2) % 2 = 0 ∨ t / 2 ^ (2 * (x % 2) + y % 2) % 2 = 1 by omega) with e | e <;> rw [e] <;> omega
  p := by rw [h.p, Nat.pow_succ]; omega
  eq := by
    have h1 := h.eq
    rw [h.p, bitsN_step t j x y o hj, Nat.pow_succ] at h1
    rw [h.p, Nat.mul_comm 2 (2 ^ j)]
    exact h1
set_option maxHeartbeats 4000000 in
theorem bits_tab (t A B : Nat) (ht : t < 16) (a1 : A < 4294967296) (b1 : B < 4294967296) (w : World) :
    Calls Tryz.prog 130 #[.int .u32 (A : Int), .int .u32 (B : Int), .int .i64 (t : Int)] w fun e w' => e = .returned (.int .u32 ((bitsN t 32 A B : Nat) : Int)) ∧ w = w' := by
  go_enter Tryz.func130, Tryz.ntmps130
  go_wp2_with fail
  go_loop [7, 8, 9, 10, 11] (fun vo vp vx vy vj => ∃ j x y o P : Nat, Hid (BitsAt t A B j x y o P) ∧ vo = .int .i64 (o : Int) ∧ vp = .int .i64 (P : Int) ∧ vx = .int .i64 (x : Int) ∧ vy = .int .i64 (y : Int) ∧ vj = .int .i64 (j : Int)) (fun _ _ _ _ vj => 32 - (intOf vj).toNat)
  case atStart => exact ⟨0, A, B, 0, 1, Lib.hid ⟨by decide, a1, b1, by decide, rfl, by simp⟩, rfl, rfl, rfl, rfl, rfl⟩
  case round =>
    obtain ⟨j, x, y, o, P, H, rfl, rfl, rfl, rfl, rfl⟩ := hrel
    have hj := H.out.j1
    by_cases hlt : j < 32
    · have hP : (P : Int) ≤ 2147483648 := by have h1 := H.out.p; have h2 := pow_31 hlt; omega
      have hP0 : (1 : Int) ≤ (P : Int) := by have h1 := H.out.p; have h2 : 0 < 2 ^ j := Nat.pow_pos (by decide); omega
      have hx0 : (0 : Int) ≤ (x : Int) := by omega
      have hx1 : (x : Int) < 4294967296 := by have := H.out.x1; omega
      have hy0 : (0 : Int) ≤ (y : Int) := by omega
      have hy1 : (y : Int) < 4294967296 := by have := H.out.y1; omega
      have ho0 : (0 : Int) ≤ (o : Int) := by omega
      have ho1 : (o : Int) < (P : Int) := by have := H.out.o1; omega
      have hj1 : (j : Int) < 32 := by omega
      obtain ⟨k, hk⟩ : ∃ k : Nat, 2 * (x % 2) + y % 2 = k := ⟨_, rfl⟩
      have hk2 : (2 * ((x : Int) % 2) + (y : Int) % 2) = (k : Int) := by omega
      have hk3 : k ≤ 3 := by omega
      have HN := Lib.hid (H.out.next hlt)
      rw [hk] at HN
      clear hk
      go_wp2_with fail
      go_loop [13, 14] (fun vt vi => ∃ i : Nat, i ≤ k ∧ vt = .int .i64 ((t / 2 ^ i : Nat) : Int) ∧ vi = .int .i64 (i : Int)) (fun _ vi => k - (intOf vi).toNat)
      case atStart => exact ⟨0, Nat.zero_le _, by simp, rfl⟩
      case round =>
        obtain ⟨i, hi, rfl, rfl⟩ := hrel
        obtain ⟨T, hT⟩ : ∃ T : Nat, t / 2 ^ i = T := ⟨_, rfl⟩
        have HT2 : Hid (T / 2 = t / 2 ^ (i + 1)) := by
          show _ = _
          rw [← hT, div_pow2]
        have hTs : T < 16 := by rw [← hT]; exact Nat.lt_of_le_of_lt (Nat.div_le_self _ _) ht
        have hT0 : (0 : Int) ≤ (T : Int) := by omega
        have hT1 : (T : Int) < 16 := by omega
        by_cases hl2 : i < k
        · rw [hT]
          clear hT
          go_wp2
          go_round
          case rel => exact ⟨i + 1, by omega, by rw [← HT2.out]; go_num, by go_num⟩
          case measure => simp [intOf]; omega
        · obtain rfl : i = k := by omega
          rw [hT] at HN ⊢
          clear hT
          rcases (show T % 2 = 0 ∨ T % 2 = 1 by omega) with hb | hb
          · have hb2 : (T : Int) % 2 = 0 := by omega
            rw [hb, Nat.mul_zero, Nat.add_zero] at HN
            clear hb
            go_wp2
            go_round
            case rel => exact ⟨j + 1, _, _, _, _, HN, by go_num, by go_num, by go_num, by go_num, by go_num⟩
            case measure => simp [intOf]; omega
          · have hb2 : (T : Int) % 2 = 1 := by omega
            rw [hb, Nat.mul_one] at HN
            clear hb
            go_wp2
            go_round
            case rel => exact ⟨j + 1, _, _, _, _, HN, by go_num, by go_num, by go_num, by go_num, by go_num⟩
            case measure => simp [intOf]; omega
    · obtain rfl : j = 32 := by omega
      have he : o = bitsN t 32 A B := by
        have h1 := H.out.eq
        have h2 : bitsN t (32 - 32) x y = 0 := rfl
        rw [h2, Nat.mul_zero, Nat.add_zero] at h1
        exact h1
      have HE : Hid ((o : Int) = ((bitsN t 32 A B : Nat) : Int)) := by
        show _ = _
        rw [he]
      have ho1 : (o : Int) < 4294967296 := by have := bitsN_lt t 32 A B; omega
      have ho0 : (0 : Int) ≤ (o : Int) := by omega
      clear he
      go_wp2
      go_ret
      exact ⟨ret_int HE.out, rfl⟩
theorem bits_any (t : Nat) (a b : Int) (ht : t < 16) (a0 : 0 ≤ a) (a1 : a < 4294967296) (b0 : 0 ≤ b) (b1 : b < 4294967296) (w : World) :
    Calls Tryz.prog 130 #[.int .u32 a, .int .u32 b, .int .i64 (t : Int)] w fun e w' => e = .returned (.int .u32 (bitsZ t a b)) ∧ w = w' := by
  obtain ⟨A, rfl⟩ := Int.eq_ofNat_of_zero_le a0
  obtain ⟨B, rfl⟩ := Int.eq_ofNat_of_zero_le b0
  have := bits_tab t A B ht (by omega) (by omega) w
  unfold bitsZ
  simpa using this
end Go.Proofs.YtadoaldnjnkhgaaGreatDoor
