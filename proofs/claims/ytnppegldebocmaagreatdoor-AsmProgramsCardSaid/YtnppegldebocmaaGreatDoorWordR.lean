/- The walks of the document's Word, ShiftOf (up and down), Part, and of word.Shift (up). Conditions: as each theorem states. -/
import Derived.Test.YtnppegldebocmaaGreatDoorRows
import Derived.Test.YtnppegldebocmaaGreatDoorNext
import Derived.Handy
import Derived.Lib.Hide
namespace Go.Proofs.YtnppegldebocmaaGreatDoor
open Go.RowKit
/-- Two to a power. -/
def p2 (k : Nat) : Int := 2 ^ k
theorem p2_succ (k : Nat) : p2 (k + 1) = 2 * p2 k := by unfold p2; rw [Int.pow_succ]; omega
theorem p2_pos (k : Nat) : 1 ≤ p2 k := by
  induction k with
  | zero => decide
  | succ k ih => rw [p2_succ]; omega
theorem p2_mono {a b : Nat} (h : a ≤ b) : p2 a ≤ p2 b := by
  induction h with
  | refl => exact Int.le_refl _
  | step h ih => rw [p2_succ]; have := p2_pos; rename_i m; have := p2_pos m; omega
theorem p2_31 {k : Nat} (h : k ≤ 31) : p2 k ≤ 2147483648 := p2_mono h
theorem ret_int {k : IntKind} {a b : Int} (h : a = b) : Ending.returned (.int k a) = .returned (.int k b) := by rw [h]
theorem tmod_neg (n : Int) (hn : n < 0) : n.tmod 4294967296 = -((-n) % 4294967296) := by
  have e : n = -(-n) := by omega
  rw [e, Int.neg_tmod, Int.tmod_eq_emod_of_nonneg (by omega)]
  simp
theorem word_any (n : Int) (h0 : -9223372036854775808 ≤ n) (h1 : n ≤ 9223372036854775807) (w : World) :
    Calls Tryz.prog 41 #[.int .i64 n] w fun e w' => e = .returned (.int .u32 (n % 4294967296)) ∧ w = w' := by
  by_cases hn : 0 ≤ n
  · go_enter Tryz.func41, Tryz.ntmps41
    go_wp2
    go_ret
    exact ⟨rfl, rfl⟩
  · have HT := Lib.hid (tmod_neg n (by omega))
    have t0 : -4294967296 < n.tmod 4294967296 := by rw [HT.out]; omega
    have t1 : n.tmod 4294967296 ≤ 0 := by rw [HT.out]; omega
    have hn' : n < 0 := by omega
    by_cases hz : n.tmod 4294967296 < 0
    · go_enter Tryz.func41, Tryz.ntmps41
      go_wp2
      go_ret
      refine ⟨ret_int ?_, rfl⟩
      rw [HT.out] at hz ⊢
      omega
    · go_enter Tryz.func41, Tryz.ntmps41
      go_wp2
      go_ret
      refine ⟨ret_int ?_, rfl⟩
      rw [HT.out] at hz ⊢
      omega
set_option maxHeartbeats 400000 in
theorem shiftOf_down (a : Int) (k : Nat) (h0 : 0 ≤ a) (h1 : a < 4294967296) (hk : k < 32) (w : World) :
    Calls Tryz.prog 112 #[.int .u8 62, .int .u32 a, .int .u32 (k : Int)] w fun e w' => e = .returned (.int .u32 (a / p2 k)) ∧ w = w' := by
  have hk1 : (k : Int) % 32 = k := by omega
  have HK := Lib.hid hk1
  go_enter Tryz.func112, Tryz.ntmps112
  go_wp2_with fail
  go_loop [7, 8] (fun p i => ∃ j : Nat, j ≤ k ∧ p = .int .i64 (p2 j) ∧ i = .int .u32 (j : Int)) (fun _ i => k - (intOf i).toNat)
  case atStart => exact ⟨0, Nat.zero_le _, rfl, rfl⟩
  case round =>
    obtain ⟨j, hj, rfl, rfl⟩ := hrel
    have hp := p2_pos j
    have hp1 := p2_31 (k := j) (by omega)
    by_cases hlt : j < k
    · have HS := Lib.hid (p2_succ j)
      go_wp2
      go_round
      case rel => exact ⟨j + 1, by omega, by rw [HS.out], by go_num⟩
      case measure => simp [intOf]; omega
    · obtain rfl : j = k := by omega
      have hq0 : 0 ≤ a / p2 j := Int.ediv_nonneg h0 (by omega)
      have hq1 : a / p2 j ≤ a := Int.ediv_le_self _ h0
      have hq2 : a / p2 j % 4294967296 = a / p2 j := by omega
      have HQ := Lib.hid hq2
      clear hq2
      go_wp2_with (go_at_call 41; refine (word_any _ (by omega) (by omega) _).mono ?_; rintro e w' ⟨rfl, rfl⟩)
      go_ret
      exact ⟨ret_int HQ.out, rfl⟩
theorem up_bound (a p : Int) (h0 : 0 ≤ a) (hp : 1 ≤ p) (hp1 : p ≤ 2147483648) : 1 ≤ 4294967296 / p ∧ 0 ≤ a % (4294967296 / p) ∧ a % (4294967296 / p) ≤ a ∧ 0 ≤ a % (4294967296 / p) * p ∧ a % (4294967296 / p) * p < 4294967296 ∧ 4294967296 / p ≤ 4294967296 := by
  have hm : 1 ≤ 4294967296 / p := (Int.le_ediv_iff_mul_le (by omega)).2 (by omega)
  have hr0 : 0 ≤ a % (4294967296 / p) := Int.emod_nonneg _ (by omega)
  have hr1 : a % (4294967296 / p) < 4294967296 / p := Int.emod_lt_of_pos _ (by omega)
  have hd : 4294967296 / p * p ≤ 4294967296 := Int.ediv_mul_le _ (by omega)
  have h2 : a % (4294967296 / p) * p < 4294967296 / p * p := Int.mul_lt_mul_of_pos_right hr1 (by omega)
  have h3 : 4294967296 / p ≤ 4294967296 := Int.ediv_le_self _ (by decide)
  refine ⟨hm, hr0, ?_, Int.mul_nonneg hr0 (by omega), by omega, h3⟩
  have e := Int.mul_ediv_add_emod a (4294967296 / p)
  have n := Int.mul_nonneg (show 0 ≤ 4294967296 / p by omega) (Int.ediv_nonneg h0 (show 0 ≤ 4294967296 / p by omega))
  omega
set_option maxHeartbeats 400000 in
theorem shiftOf_up (a : Int) (k : Nat) (h0 : 0 ≤ a) (h1 : a < 4294967296) (hk : k < 32) (w : World) :
    Calls Tryz.prog 112 #[.int .u8 60, .int .u32 a, .int .u32 (k : Int)] w fun e w' => e = .returned (.int .u32 (a % (4294967296 / p2 k) * p2 k)) ∧ w = w' := by
  go_enter Tryz.func112, Tryz.ntmps112
  go_wp2_with fail
  go_loop [7, 8] (fun p i => ∃ j : Nat, j ≤ k ∧ p = .int .i64 (p2 j) ∧ i = .int .u32 (j : Int)) (fun _ i => k - (intOf i).toNat)
  case atStart => exact ⟨0, Nat.zero_le _, rfl, rfl⟩
  case round =>
    obtain ⟨j, hj, rfl, rfl⟩ := hrel
    have hp := p2_pos j
    have hp1 := p2_31 (k := j) (by omega)
    by_cases hlt : j < k
    · have HS := Lib.hid (p2_succ j)
      go_wp2
      go_round
      case rel => exact ⟨j + 1, by omega, by rw [HS.out], by go_num⟩
      case measure => simp [intOf]; omega
    · obtain rfl : j = k := by omega
      obtain ⟨b1, b2, b3, b4, b5, b6⟩ := up_bound a (p2 j) h0 hp hp1
      have hq2 : a % (4294967296 / p2 j) * p2 j % 4294967296 = a % (4294967296 / p2 j) * p2 j := by omega
      have HQ := Lib.hid hq2
      clear hq2
      go_wp2_with (go_at_call 41; refine (word_any _ (by omega) (by omega) _).mono ?_; rintro e w' ⟨rfl, rfl⟩)
      go_ret
      exact ⟨ret_int HQ.out, rfl⟩
theorem one_up (k : Nat) (hk : k < 32) : 1 % (4294967296 / p2 k) * p2 k = p2 k := by
  have hp := p2_pos k
  have hp1 := p2_31 (k := k) (by omega)
  have hm : 2 ≤ 4294967296 / p2 k := (Int.le_ediv_iff_mul_le (by omega)).2 (by omega)
  rw [Int.emod_eq_of_lt (by decide) (by omega)]
  omega
theorem part_any (x : Int) (u b : Nat) (h0 : 0 ≤ x) (h1 : x < 4294967296) (hu : u < 32) (hb : b < 32) (w : World) :
    Calls Tryz.prog 88 #[.int .u32 x, .int .i64 (u : Int), .int .i64 (b : Int)] w fun e w' => e = .returned (.int .i64 (x / p2 u % p2 b)) ∧ w = w' := by
  have hp := p2_pos u
  have hq := p2_pos b
  have hq1 := p2_31 (k := b) (by omega)
  have d0 : 0 ≤ x / p2 u := Int.ediv_nonneg h0 (by omega)
  have d1 : x / p2 u ≤ x := Int.ediv_le_self _ h0
  have HB := Lib.hid (one_up b hb)
  go_enter Tryz.func88, Tryz.ntmps88
  go_wp2_with fail
  refine (shiftOf_down x u h0 h1 hu _).mono ?_
  rintro e w' ⟨rfl, rfl⟩
  go_wp2_with fail
  refine (shiftOf_up 1 b (by decide) (by decide) hb _).mono ?_
  rintro e w' ⟨rfl, rfl⟩
  rw [HB.out]
  go_wp2
  go_ret
  exact ⟨rfl, rfl⟩
theorem shift_up (a : Int) (k : Nat) (hk : k < 32) (w : World) :
    Calls Tryz.prog 18 #[.int .u8 60, .int .u32 a, .int .u32 (k : Int)] w fun e w' => e = .returned (.int .u32 (a * p2 k % 4294967296)) ∧ w = w' := by
  go_enter Tryz.func18, Tryz.ntmps18
  go_wp2
  go_ret
  exact ⟨ret_int (by rw [Nat.mod_eq_of_lt hk]; rfl), rfl⟩
end Go.Proofs.YtnppegldebocmaaGreatDoor
