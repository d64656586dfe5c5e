/- The walks of code's small functions: fixed, place, lay. Conditions: as each theorem states. -/
import Derived.Test.YtnppegldebocmaaGreatDoorRows
import Derived.Test.YtnppegldebocmaaGreatDoorTab
import Derived.WalkKit
import Derived.WalkSpells
import Derived.WalkLawsBesides
import Derived.Handy
namespace Go.Proofs.YtnppegldebocmaaGreatDoor
open Go.RowKit
theorem place_83 (w : World) : Calls Tryz.prog 45 #[.int .i32 83] w fun e w' => e = .returned (.tuple #[.int .i64 21, .int .i64 5]) ∧ w = w' := by
  go_enter Tryz.func45, Tryz.ntmps45
  go_wp2
  go_returns
  exact ⟨rfl, rfl⟩
theorem place_84 (w : World) : Calls Tryz.prog 45 #[.int .i32 84] w fun e w' => e = .returned (.tuple #[.int .i64 16, .int .i64 5]) ∧ w = w' := by
  go_enter Tryz.func45, Tryz.ntmps45
  go_wp2
  go_returns
  exact ⟨rfl, rfl⟩
theorem place_68 (w : World) : Calls Tryz.prog 45 #[.int .i32 68] w fun e w' => e = .returned (.tuple #[.int .i64 11, .int .i64 5]) ∧ w = w' := by
  go_enter Tryz.func45, Tryz.ntmps45
  go_wp2
  go_returns
  exact ⟨rfl, rfl⟩
theorem place_97 (w : World) : Calls Tryz.prog 45 #[.int .i32 97] w fun e w' => e = .returned (.tuple #[.int .i64 6, .int .i64 5]) ∧ w = w' := by
  go_enter Tryz.func45, Tryz.ntmps45
  go_wp2
  go_returns
  exact ⟨rfl, rfl⟩
theorem place_105 (w : World) : Calls Tryz.prog 45 #[.int .i32 105] w fun e w' => e = .returned (.tuple #[.int .i64 0, .int .i64 16]) ∧ w = w' := by
  go_enter Tryz.func45, Tryz.ntmps45
  go_wp2
  go_returns
  exact ⟨rfl, rfl⟩
theorem place_106 (w : World) : Calls Tryz.prog 45 #[.int .i32 106] w fun e w' => e = .returned (.tuple #[.int .i64 0, .int .i64 26]) ∧ w = w' := by
  go_enter Tryz.func45, Tryz.ntmps45
  go_wp2
  go_returns
  exact ⟨rfl, rfl⟩
theorem or_zero (n : Int) (h0 : 0 ≤ n) (h1 : n < 64) : bits .or .u32 0 n = n := by
  rw [u32_or 0 n (by omega) (by omega) h0 (by omega)]
  simp
  omega
theorem ret_u32 {a b : Int} (h : a = b) : Ending.returned (.int .u32 a) = .returned (.int .u32 b) := by rw [h]
theorem fixed_0 (a b c : Value) (n : Int) (h0 : 0 ≤ n) (h1 : n < 64) (w : World) : Calls Tryz.prog 44 #[.agg #[a, .int .u32 0, .int .u32 n, b, c]] w fun e w' => e = .returned (.int .u32 (n)) ∧ Below w.heap.size w w' := by
  go_enter Tryz.func44, Tryz.ntmps44
  go_wp2
  go_returns
  exact ⟨ret_u32 (or_zero n h0 h1), by go_grown⟩
theorem fixed_m (a b c : Value) (m n : Int) (h0 : 0 < m) (h1 : m < 64) (h2 : (m == 16) = false) (w : World) : Calls Tryz.prog 44 #[.agg #[a, .int .u32 m, .int .u32 n, b, c]] w fun e w' => e = .returned (.int .u32 (m * 67108864)) ∧ Below w.heap.size w w' := by
  go_enter Tryz.func44, Tryz.ntmps44
  go_wp2
  go_returns
  exact ⟨rfl, by go_grown⟩
theorem fixed_16_0 (a b c : Value) (w : World) : Calls Tryz.prog 44 #[.agg #[a, .int .u32 16, .int .u32 0, b, c]] w fun e w' => e = .returned (.int .u32 (1073741824)) ∧ Below w.heap.size w w' := by
  go_enter Tryz.func44, Tryz.ntmps44
  go_wp2
  go_returns
  exact ⟨by rfl, by go_grown⟩
theorem fixed_16_4 (a b c : Value) (w : World) : Calls Tryz.prog 44 #[.agg #[a, .int .u32 16, .int .u32 4, b, c]] w fun e w' => e = .returned (.int .u32 (1082130432)) ∧ Below w.heap.size w w' := by
  go_enter Tryz.func44, Tryz.ntmps44
  go_wp2
  go_returns
  exact ⟨by rfl, by go_grown⟩
theorem fixed_16_16 (a b c : Value) (w : World) : Calls Tryz.prog 44 #[.agg #[a, .int .u32 16, .int .u32 16, b, c]] w fun e w' => e = .returned (.int .u32 (1107296280)) ∧ Below w.heap.size w w' := by
  go_enter Tryz.func44, Tryz.ntmps44
  go_wp2
  go_returns
  exact ⟨by rfl, by go_grown⟩
end Go.Proofs.YtnppegldebocmaaGreatDoor
