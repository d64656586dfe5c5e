/- The walk of asm.order: an operation's operands. Conditions: the number is an operation's. -/
import Derived.Test.YtnppegldebocmaaGreatDoorEncP
import Derived.Test.YtnppegldebocmaaGreatDoorRows
import Derived.Handy
import Derived.Lib.Hide
import Derived.Deep.QuietTactic
import Derived.BigQuiet
namespace Go.Proofs.YtnppegldebocmaaGreatDoor
open Go.RowKit
set_option linter.unusedVariables false
theorem fields_lit (n : Int) (l : ByteArray) (h : fieldsS n = l) (w : World) : Calls Tryz.prog 61 #[.int .i64 n] w fun e w' => e = .returned (.string l) ∧ Below w.heap.size w w' := by
  subst h
  exact fields_any n w
theorem kind_lit (n : Int) (l : ByteArray) (h : bsl (kindOfB n) = l) (w : World) : Calls Tryz.prog 62 #[.int .i64 n] w fun e w' => e = .returned (.string l) ∧ Below w.heap.size w w' := by
  subst h
  exact kindOf_any n w
theorem order_4 (w : World) : Calls Tryz.prog 26 #[.int .i64 4] w fun e w' => e = .returned (.string ⟨#[68, 84, 83]⟩) ∧ Below w.heap.size w w' := by
  have hF := Lib.hid (fun W => fields_any 4 W)
  go_enter Tryz.func26, Tryz.ntmps26
  go_wp2_with (go_at_call 61; (with_reducible refine (hF.out _).mono ?_); rintro e w1 ⟨rfl, hb1⟩)
  go_ret
  exact ⟨rfl, hb1⟩
theorem order_5 (w : World) : Calls Tryz.prog 26 #[.int .i64 5] w fun e w' => e = .returned (.string ⟨#[68, 84, 83]⟩) ∧ Below w.heap.size w w' := by
  have hF := Lib.hid (fun W => fields_any 5 W)
  go_enter Tryz.func26, Tryz.ntmps26
  go_wp2_with (go_at_call 61; (with_reducible refine (hF.out _).mono ?_); rintro e w1 ⟨rfl, hb1⟩)
  go_ret
  exact ⟨rfl, hb1⟩
theorem order_6 (w : World) : Calls Tryz.prog 26 #[.int .i64 6] w fun e w' => e = .returned (.string ⟨#[68, 84, 83]⟩) ∧ Below w.heap.size w w' := by
  have hF := Lib.hid (fun W => fields_any 6 W)
  go_enter Tryz.func26, Tryz.ntmps26
  go_wp2_with (go_at_call 61; (with_reducible refine (hF.out _).mono ?_); rintro e w1 ⟨rfl, hb1⟩)
  go_ret
  exact ⟨rfl, hb1⟩
theorem order_31 (w : World) : Calls Tryz.prog 26 #[.int .i64 31] w fun e w' => e = .returned (.string ⟨#[83, 84, 110]⟩) ∧ Below w.heap.size w w' := by
  have hF := Lib.hid (fun W => fields_any 31 W)
  go_enter Tryz.func26, Tryz.ntmps26
  go_wp2_with (go_at_call 61; (with_reducible refine (hF.out _).mono ?_); rintro e w1 ⟨rfl, hb1⟩)
  go_ret
  exact ⟨rfl, hb1⟩
theorem order_32 (w : World) : Calls Tryz.prog 26 #[.int .i64 32] w fun e w' => e = .returned (.string ⟨#[83, 84, 110]⟩) ∧ Below w.heap.size w w' := by
  have hF := Lib.hid (fun W => fields_any 32 W)
  go_enter Tryz.func26, Tryz.ntmps26
  go_wp2_with (go_at_call 61; (with_reducible refine (hF.out _).mono ?_); rintro e w1 ⟨rfl, hb1⟩)
  go_ret
  exact ⟨rfl, hb1⟩
theorem order_33 (w : World) : Calls Tryz.prog 26 #[.int .i64 33] w fun e w' => e = .returned (.string ⟨#[83, 110]⟩) ∧ Below w.heap.size w w' := by
  have hF := Lib.hid (fun W => fields_any 33 W)
  go_enter Tryz.func26, Tryz.ntmps26
  go_wp2_with (go_at_call 61; (with_reducible refine (hF.out _).mono ?_); rintro e w1 ⟨rfl, hb1⟩)
  go_ret
  exact ⟨rfl, hb1⟩
theorem order_34 (w : World) : Calls Tryz.prog 26 #[.int .i64 34] w fun e w' => e = .returned (.string ⟨#[83, 110]⟩) ∧ Below w.heap.size w w' := by
  have hF := Lib.hid (fun W => fields_any 34 W)
  go_enter Tryz.func26, Tryz.ntmps26
  go_wp2_with (go_at_call 61; (with_reducible refine (hF.out _).mono ?_); rintro e w1 ⟨rfl, hb1⟩)
  go_ret
  exact ⟨rfl, hb1⟩
theorem order_39 (w : World) : Calls Tryz.prog 26 #[.int .i64 39] w fun e w' => e = .returned (.string ⟨#[84, 83, 117]⟩) ∧ Below w.heap.size w w' := by
  have hF := Lib.hid (fun W => fields_any 39 W)
  go_enter Tryz.func26, Tryz.ntmps26
  go_wp2_with (go_at_call 61; (with_reducible refine (hF.out _).mono ?_); rintro e w1 ⟨rfl, hb1⟩)
  go_ret
  exact ⟨rfl, hb1⟩
theorem order_40 (w : World) : Calls Tryz.prog 26 #[.int .i64 40] w fun e w' => e = .returned (.string ⟨#[84, 83, 117]⟩) ∧ Below w.heap.size w w' := by
  have hF := Lib.hid (fun W => fields_any 40 W)
  go_enter Tryz.func26, Tryz.ntmps26
  go_wp2_with (go_at_call 61; (with_reducible refine (hF.out _).mono ?_); rintro e w1 ⟨rfl, hb1⟩)
  go_ret
  exact ⟨rfl, hb1⟩
theorem order_41 (w : World) : Calls Tryz.prog 26 #[.int .i64 41] w fun e w' => e = .returned (.string ⟨#[84, 83, 117]⟩) ∧ Below w.heap.size w w' := by
  have hF := Lib.hid (fun W => fields_any 41 W)
  go_enter Tryz.func26, Tryz.ntmps26
  go_wp2_with (go_at_call 61; (with_reducible refine (hF.out _).mono ?_); rintro e w1 ⟨rfl, hb1⟩)
  go_ret
  exact ⟨rfl, hb1⟩
theorem order_42 (w : World) : Calls Tryz.prog 26 #[.int .i64 42] w fun e w' => e = .returned (.string ⟨#[84, 117]⟩) ∧ Below w.heap.size w w' := by
  have hF := Lib.hid (fun W => fields_any 42 W)
  go_enter Tryz.func26, Tryz.ntmps26
  go_wp2_with (go_at_call 61; (with_reducible refine (hF.out _).mono ?_); rintro e w1 ⟨rfl, hb1⟩)
  go_ret
  exact ⟨rfl, hb1⟩
theorem order_f84_68_97 (n : Int) (z4 : (n == 4) = false) (z5 : (n == 5) = false) (z6 : (n == 6) = false) (z31 : (n == 31) = false) (z32 : (n == 32) = false) (z33 : (n == 33) = false) (z34 : (n == 34) = false) (z39 : (n == 39) = false) (z40 : (n == 40) = false) (z41 : (n == 41) = false) (z42 : (n == 42) = false) (hF : Hid (∀ W, Calls Tryz.prog 61 #[.int .i64 n] W fun e w' => e = .returned (.string ⟨#[84, 68, 97]⟩) ∧ Below W.heap.size W w')) (w : World) : Calls Tryz.prog 26 #[.int .i64 n] w fun e w' => e = .returned (.string ⟨#[68, 84, 97]⟩) ∧ Below w.heap.size w w' := by
  go_enter Tryz.func26, Tryz.ntmps26
  go_wp2_with (go_at_call 61; (with_reducible refine (hF.out _).mono ?_); rintro e w1 ⟨rfl, hb1⟩)
  go_ret
  exact ⟨rfl, hb1⟩
theorem order_f83_84_68 (n : Int) (z4 : (n == 4) = false) (z5 : (n == 5) = false) (z6 : (n == 6) = false) (z31 : (n == 31) = false) (z32 : (n == 32) = false) (z33 : (n == 33) = false) (z34 : (n == 34) = false) (z39 : (n == 39) = false) (z40 : (n == 40) = false) (z41 : (n == 41) = false) (z42 : (n == 42) = false) (hF : Hid (∀ W, Calls Tryz.prog 61 #[.int .i64 n] W fun e w' => e = .returned (.string ⟨#[83, 84, 68]⟩) ∧ Below W.heap.size W w')) (w : World) : Calls Tryz.prog 26 #[.int .i64 n] w fun e w' => e = .returned (.string ⟨#[68, 83, 84]⟩) ∧ Below w.heap.size w w' := by
  go_enter Tryz.func26, Tryz.ntmps26
  go_wp2_with (go_at_call 61; (with_reducible refine (hF.out _).mono ?_); rintro e w1 ⟨rfl, hb1⟩)
  go_ret
  exact ⟨rfl, hb1⟩
theorem order_f83_68 (n : Int) (z4 : (n == 4) = false) (z5 : (n == 5) = false) (z6 : (n == 6) = false) (z31 : (n == 31) = false) (z32 : (n == 32) = false) (z33 : (n == 33) = false) (z34 : (n == 34) = false) (z39 : (n == 39) = false) (z40 : (n == 40) = false) (z41 : (n == 41) = false) (z42 : (n == 42) = false) (hF : Hid (∀ W, Calls Tryz.prog 61 #[.int .i64 n] W fun e w' => e = .returned (.string ⟨#[83, 68]⟩) ∧ Below W.heap.size W w')) (w : World) : Calls Tryz.prog 26 #[.int .i64 n] w fun e w' => e = .returned (.string ⟨#[68, 83]⟩) ∧ Below w.heap.size w w' := by
  go_enter Tryz.func26, Tryz.ntmps26
  go_wp2_with (go_at_call 61; (with_reducible refine (hF.out _).mono ?_); rintro e w1 ⟨rfl, hb1⟩)
  go_ret
  exact ⟨rfl, hb1⟩
theorem order_f83_84_105_s (n : Int) (z4 : (n == 4) = false) (z5 : (n == 5) = false) (z6 : (n == 6) = false) (z31 : (n == 31) = false) (z32 : (n == 32) = false) (z33 : (n == 33) = false) (z34 : (n == 34) = false) (z39 : (n == 39) = false) (z40 : (n == 40) = false) (z41 : (n == 41) = false) (z42 : (n == 42) = false) (hF : Hid (∀ W, Calls Tryz.prog 61 #[.int .i64 n] W fun e w' => e = .returned (.string ⟨#[83, 84, 105]⟩) ∧ Below W.heap.size W w')) (hK : Hid (∀ W, Calls Tryz.prog 62 #[.int .i64 n] W fun e w' => e = .returned (.string ⟨#[115, 117, 109]⟩) ∧ Below W.heap.size W w')) (w : World) : Calls Tryz.prog 26 #[.int .i64 n] w fun e w' => e = .returned (.string ⟨#[84, 83, 110]⟩) ∧ Below w.heap.size w w' := by
  go_enter Tryz.func26, Tryz.ntmps26
  go_wp2_with (first | (go_at_call 61; (with_reducible refine (hF.out _).mono ?_); rintro e w1 ⟨rfl, hb1⟩) | (go_at_call 62; (with_reducible refine (hK.out _).mono ?_); rintro e w2 ⟨rfl, hb2⟩))
  go_ret
  exact ⟨rfl, hb1.trans (hb2.mono hb1.size)⟩
theorem order_f83_84_105_m_l (n : Int) (z4 : (n == 4) = false) (z5 : (n == 5) = false) (z6 : (n == 6) = false) (z31 : (n == 31) = false) (z32 : (n == 32) = false) (z33 : (n == 33) = false) (z34 : (n == 34) = false) (z39 : (n == 39) = false) (z40 : (n == 40) = false) (z41 : (n == 41) = false) (z42 : (n == 42) = false) (hF : Hid (∀ W, Calls Tryz.prog 61 #[.int .i64 n] W fun e w' => e = .returned (.string ⟨#[83, 84, 105]⟩) ∧ Below W.heap.size W w')) (hK : Hid (∀ W, Calls Tryz.prog 62 #[.int .i64 n] W fun e w' => e = .returned (.string ⟨#[108, 111, 97, 100]⟩) ∧ Below W.heap.size W w')) (w : World) : Calls Tryz.prog 26 #[.int .i64 n] w fun e w' => e = .returned (.string ⟨#[84, 109]⟩) ∧ Below w.heap.size w w' := by
  go_enter Tryz.func26, Tryz.ntmps26
  go_wp2_with (first | (go_at_call 61; (with_reducible refine (hF.out _).mono ?_); rintro e w1 ⟨rfl, hb1⟩) | (go_at_call 62; (with_reducible refine (hK.out _).mono ?_); rintro e w2 ⟨rfl, hb2⟩))
  go_ret
  exact ⟨rfl, hb1.trans (hb2.mono hb1.size)⟩
theorem order_f83_84_105_m_t (n : Int) (z4 : (n == 4) = false) (z5 : (n == 5) = false) (z6 : (n == 6) = false) (z31 : (n == 31) = false) (z32 : (n == 32) = false) (z33 : (n == 33) = false) (z34 : (n == 34) = false) (z39 : (n == 39) = false) (z40 : (n == 40) = false) (z41 : (n == 41) = false) (z42 : (n == 42) = false) (hF : Hid (∀ W, Calls Tryz.prog 61 #[.int .i64 n] W fun e w' => e = .returned (.string ⟨#[83, 84, 105]⟩) ∧ Below W.heap.size W w')) (hK : Hid (∀ W, Calls Tryz.prog 62 #[.int .i64 n] W fun e w' => e = .returned (.string ⟨#[115, 116, 111, 114, 101]⟩) ∧ Below W.heap.size W w')) (w : World) : Calls Tryz.prog 26 #[.int .i64 n] w fun e w' => e = .returned (.string ⟨#[84, 109]⟩) ∧ Below w.heap.size w w' := by
  go_enter Tryz.func26, Tryz.ntmps26
  go_wp2_with (first | (go_at_call 61; (with_reducible refine (hF.out _).mono ?_); rintro e w1 ⟨rfl, hb1⟩) | (go_at_call 62; (with_reducible refine (hK.out _).mono ?_); rintro e w2 ⟨rfl, hb2⟩))
  go_ret
  exact ⟨rfl, hb1.trans (hb2.mono hb1.size)⟩
theorem order_f (n : Int) (z4 : (n == 4) = false) (z5 : (n == 5) = false) (z6 : (n == 6) = false) (z31 : (n == 31) = false) (z32 : (n == 32) = false) (z33 : (n == 33) = false) (z34 : (n == 34) = false) (z39 : (n == 39) = false) (z40 : (n == 40) = false) (z41 : (n == 41) = false) (z42 : (n == 42) = false) (hF : Hid (∀ W, Calls Tryz.prog 61 #[.int .i64 n] W fun e w' => e = .returned (.string ⟨#[]⟩) ∧ Below W.heap.size W w')) (w : World) : Calls Tryz.prog 26 #[.int .i64 n] w fun e w' => e = .returned (.string ⟨#[]⟩) ∧ Below w.heap.size w w' := by
  go_enter Tryz.func26, Tryz.ntmps26
  go_wp2_with (go_at_call 61; (with_reducible refine (hF.out _).mono ?_); rintro e w1 ⟨rfl, hb1⟩)
  go_ret
  exact ⟨rfl, hb1⟩
theorem order_f83 (n : Int) (z4 : (n == 4) = false) (z5 : (n == 5) = false) (z6 : (n == 6) = false) (z31 : (n == 31) = false) (z32 : (n == 32) = false) (z33 : (n == 33) = false) (z34 : (n == 34) = false) (z39 : (n == 39) = false) (z40 : (n == 40) = false) (z41 : (n == 41) = false) (z42 : (n == 42) = false) (hF : Hid (∀ W, Calls Tryz.prog 61 #[.int .i64 n] W fun e w' => e = .returned (.string ⟨#[83]⟩) ∧ Below W.heap.size W w')) (w : World) : Calls Tryz.prog 26 #[.int .i64 n] w fun e w' => e = .returned (.string ⟨#[83]⟩) ∧ Below w.heap.size w w' := by
  go_enter Tryz.func26, Tryz.ntmps26
  go_wp2_with (go_at_call 61; (with_reducible refine (hF.out _).mono ?_); rintro e w1 ⟨rfl, hb1⟩)
  go_ret
  exact ⟨rfl, hb1⟩
theorem order_f68 (n : Int) (z4 : (n == 4) = false) (z5 : (n == 5) = false) (z6 : (n == 6) = false) (z31 : (n == 31) = false) (z32 : (n == 32) = false) (z33 : (n == 33) = false) (z34 : (n == 34) = false) (z39 : (n == 39) = false) (z40 : (n == 40) = false) (z41 : (n == 41) = false) (z42 : (n == 42) = false) (hF : Hid (∀ W, Calls Tryz.prog 61 #[.int .i64 n] W fun e w' => e = .returned (.string ⟨#[68]⟩) ∧ Below W.heap.size W w')) (w : World) : Calls Tryz.prog 26 #[.int .i64 n] w fun e w' => e = .returned (.string ⟨#[68]⟩) ∧ Below w.heap.size w w' := by
  go_enter Tryz.func26, Tryz.ntmps26
  go_wp2_with (go_at_call 61; (with_reducible refine (hF.out _).mono ?_); rintro e w1 ⟨rfl, hb1⟩)
  go_ret
  exact ⟨rfl, hb1⟩
theorem order_f83_84 (n : Int) (z4 : (n == 4) = false) (z5 : (n == 5) = false) (z6 : (n == 6) = false) (z31 : (n == 31) = false) (z32 : (n == 32) = false) (z33 : (n == 33) = false) (z34 : (n == 34) = false) (z39 : (n == 39) = false) (z40 : (n == 40) = false) (z41 : (n == 41) = false) (z42 : (n == 42) = false) (hF : Hid (∀ W, Calls Tryz.prog 61 #[.int .i64 n] W fun e w' => e = .returned (.string ⟨#[83, 84]⟩) ∧ Below W.heap.size W w')) (w : World) : Calls Tryz.prog 26 #[.int .i64 n] w fun e w' => e = .returned (.string ⟨#[83, 84]⟩) ∧ Below w.heap.size w w' := by
  go_enter Tryz.func26, Tryz.ntmps26
  go_wp2_with (go_at_call 61; (with_reducible refine (hF.out _).mono ?_); rintro e w1 ⟨rfl, hb1⟩)
  go_ret
  exact ⟨rfl, hb1⟩
theorem order_f106 (n : Int) (z4 : (n == 4) = false) (z5 : (n == 5) = false) (z6 : (n == 6) = false) (z31 : (n == 31) = false) (z32 : (n == 32) = false) (z33 : (n == 33) = false) (z34 : (n == 34) = false) (z39 : (n == 39) = false) (z40 : (n == 40) = false) (z41 : (n == 41) = false) (z42 : (n == 42) = false) (hF : Hid (∀ W, Calls Tryz.prog 61 #[.int .i64 n] W fun e w' => e = .returned (.string ⟨#[106]⟩) ∧ Below W.heap.size W w')) (w : World) : Calls Tryz.prog 26 #[.int .i64 n] w fun e w' => e = .returned (.string ⟨#[106]⟩) ∧ Below w.heap.size w w' := by
  go_enter Tryz.func26, Tryz.ntmps26
  go_wp2_with (go_at_call 61; (with_reducible refine (hF.out _).mono ?_); rintro e w1 ⟨rfl, hb1⟩)
  go_ret
  exact ⟨rfl, hb1⟩
theorem order_f84_68 (n : Int) (z4 : (n == 4) = false) (z5 : (n == 5) = false) (z6 : (n == 6) = false) (z31 : (n == 31) = false) (z32 : (n == 32) = false) (z33 : (n == 33) = false) (z34 : (n == 34) = false) (z39 : (n == 39) = false) (z40 : (n == 40) = false) (z41 : (n == 41) = false) (z42 : (n == 42) = false) (hF : Hid (∀ W, Calls Tryz.prog 61 #[.int .i64 n] W fun e w' => e = .returned (.string ⟨#[84, 68]⟩) ∧ Below W.heap.size W w')) (w : World) : Calls Tryz.prog 26 #[.int .i64 n] w fun e w' => e = .returned (.string ⟨#[84, 68]⟩) ∧ Below w.heap.size w w' := by
  go_enter Tryz.func26, Tryz.ntmps26
  go_wp2_with (go_at_call 61; (with_reducible refine (hF.out _).mono ?_); rintro e w1 ⟨rfl, hb1⟩)
  go_ret
  exact ⟨rfl, hb1⟩
def ordL : List (List UInt8 × List UInt8 × List UInt8) := [([84, 68, 97], [68, 84, 97], [115, 117, 109]), ([83, 84, 68], [68, 83, 84], [115, 117, 109]), ([83, 68], [68, 83], [98, 114, 97, 110, 99, 104]), ([83, 84, 105], [84, 83, 110], [115, 117, 109]), ([83, 84, 105], [84, 109], [108, 111, 97, 100]), ([83, 84, 105], [84, 109], [115, 116, 111, 114, 101]), ([], [], [116, 114, 97, 112]), ([83], [83], [115, 117, 109]), ([83], [83], [98, 114, 97, 110, 99, 104]), ([68], [68], [115, 117, 109]), ([83, 84], [83, 84], [115, 117, 109]), ([106], [106], [98, 114, 97, 110, 99, 104]), ([84, 68], [84, 68], [116, 114, 97, 112])]
theorem order_all : ((List.range 54).all fun k => k == 0 || [4, 5, 6, 31, 32, 33, 34, 39, 40, 41, 42].contains k || ordL.contains (fieldsB k, orderB k, kindB k)) = true := by decide +kernel
theorem order_tab (k : Nat) (hk : k < 54) (h : 1 ≤ k ∧ k ∉ ([4, 5, 6, 31, 32, 33, 34, 39, 40, 41, 42] : List Nat)) : (fieldsB k, orderB k, kindB k) ∈ ordL := by
  have a := List.all_eq_true.1 order_all k (List.mem_range.2 hk)
  have h0 : (k == 0) = false := beq_eq_false_iff_ne.2 (by omega)
  have h1 : [4, 5, 6, 31, 32, 33, 34, 39, 40, 41, 42].contains k = false := by
    rw [Bool.eq_false_iff]
    intro hh
    exact h.2 (List.contains_iff_mem.1 hh)
  rw [h0, h1] at a
  exact List.contains_iff_mem.1 a
theorem order_any (k : Nat) (h1 : 1 ≤ k) (hk : k < 54) (w : World) : Calls Tryz.prog 26 #[.int .i64 (k : Int)] w fun e w' => e = .returned (.string (bsl (orderB k))) ∧ Below w.heap.size w w' := by
  by_cases hs : k = 4 ∨ k = 5 ∨ k = 6 ∨ k = 31 ∨ k = 32 ∨ k = 33 ∨ k = 34 ∨ k = 39 ∨ k = 40 ∨ k = 41 ∨ k = 42
  · rcases hs with rfl | rfl | rfl | rfl | rfl | rfl | rfl | rfl | rfl | rfl | rfl
    · exact order_4 w
    · exact order_5 w
    · exact order_6 w
    · exact order_31 w
    · exact order_32 w
    · exact order_33 w
    · exact order_34 w
    · exact order_39 w
    · exact order_40 w
    · exact order_41 w
    · exact order_42 w
  · have ht := order_tab k hk ⟨h1, by simpa using hs⟩
    unfold ordL at ht
    simp only [List.mem_cons, List.not_mem_nil, or_false, Prod.mk.injEq] at ht
    rcases ht with ⟨e, e2, e3⟩ | ⟨e, e2, e3⟩ | ⟨e, e2, e3⟩ | ⟨e, e2, e3⟩ | ⟨e, e2, e3⟩ | ⟨e, e2, e3⟩ | ⟨e, e2, e3⟩ | ⟨e, e2, e3⟩ | ⟨e, e2, e3⟩ | ⟨e, e2, e3⟩ | ⟨e, e2, e3⟩ | ⟨e, e2, e3⟩ | ⟨e, e2, e3⟩
    · rw [e2]; exact order_f84_68_97 (k : Int) (beq_eq_false_iff_ne.2 (by omega)) (beq_eq_false_iff_ne.2 (by omega)) (beq_eq_false_iff_ne.2 (by omega)) (beq_eq_false_iff_ne.2 (by omega)) (beq_eq_false_iff_ne.2 (by omega)) (beq_eq_false_iff_ne.2 (by omega)) (beq_eq_false_iff_ne.2 (by omega)) (beq_eq_false_iff_ne.2 (by omega)) (beq_eq_false_iff_ne.2 (by omega)) (beq_eq_false_iff_ne.2 (by omega)) (beq_eq_false_iff_ne.2 (by omega)) (fun W => fields_lit (k : Int) ⟨#[84, 68, 97]⟩ (by unfold fieldsS; rw [Int.toNat_natCast, e]; rfl) W) w
    · rw [e2]; exact order_f83_84_68 (k : Int) (beq_eq_false_iff_ne.2 (by omega)) (beq_eq_false_iff_ne.2 (by omega)) (beq_eq_false_iff_ne.2 (by omega)) (beq_eq_false_iff_ne.2 (by omega)) (beq_eq_false_iff_ne.2 (by omega)) (beq_eq_false_iff_ne.2 (by omega)) (beq_eq_false_iff_ne.2 (by omega)) (beq_eq_false_iff_ne.2 (by omega)) (beq_eq_false_iff_ne.2 (by omega)) (beq_eq_false_iff_ne.2 (by omega)) (beq_eq_false_iff_ne.2 (by omega)) (fun W => fields_lit (k : Int) ⟨#[83, 84, 68]⟩ (by unfold fieldsS; rw [Int.toNat_natCast, e]; rfl) W) w
    · rw [e2]; exact order_f83_68 (k : Int) (beq_eq_false_iff_ne.2 (by omega)) (beq_eq_false_iff_ne.2 (by omega)) (beq_eq_false_iff_ne.2 (by omega)) (beq_eq_false_iff_ne.2 (by omega)) (beq_eq_false_iff_ne.2 (by omega)) (beq_eq_false_iff_ne.2 (by omega)) (beq_eq_false_iff_ne.2 (by omega)) (beq_eq_false_iff_ne.2 (by omega)) (beq_eq_false_iff_ne.2 (by omega)) (beq_eq_false_iff_ne.2 (by omega)) (beq_eq_false_iff_ne.2 (by omega)) (fun W => fields_lit (k : Int) ⟨#[83, 68]⟩ (by unfold fieldsS; rw [Int.toNat_natCast, e]; rfl) W) w
    · rw [e2]; exact order_f83_84_105_s (k : Int) (beq_eq_false_iff_ne.2 (by omega)) (beq_eq_false_iff_ne.2 (by omega)) (beq_eq_false_iff_ne.2 (by omega)) (beq_eq_false_iff_ne.2 (by omega)) (beq_eq_false_iff_ne.2 (by omega)) (beq_eq_false_iff_ne.2 (by omega)) (beq_eq_false_iff_ne.2 (by omega)) (beq_eq_false_iff_ne.2 (by omega)) (beq_eq_false_iff_ne.2 (by omega)) (beq_eq_false_iff_ne.2 (by omega)) (beq_eq_false_iff_ne.2 (by omega)) (fun W => fields_lit (k : Int) ⟨#[83, 84, 105]⟩ (by unfold fieldsS; rw [Int.toNat_natCast, e]; rfl) W) (fun W => kind_lit (k : Int) ⟨#[115, 117, 109]⟩ (by unfold kindOfB; rw [if_neg (by omega), Int.toNat_natCast, e3]; rfl) W) w
    · rw [e2]; exact order_f83_84_105_m_l (k : Int) (beq_eq_false_iff_ne.2 (by omega)) (beq_eq_false_iff_ne.2 (by omega)) (beq_eq_false_iff_ne.2 (by omega)) (beq_eq_false_iff_ne.2 (by omega)) (beq_eq_false_iff_ne.2 (by omega)) (beq_eq_false_iff_ne.2 (by omega)) (beq_eq_false_iff_ne.2 (by omega)) (beq_eq_false_iff_ne.2 (by omega)) (beq_eq_false_iff_ne.2 (by omega)) (beq_eq_false_iff_ne.2 (by omega)) (beq_eq_false_iff_ne.2 (by omega)) (fun W => fields_lit (k : Int) ⟨#[83, 84, 105]⟩ (by unfold fieldsS; rw [Int.toNat_natCast, e]; rfl) W) (fun W => kind_lit (k : Int) ⟨#[108, 111, 97, 100]⟩ (by unfold kindOfB; rw [if_neg (by omega), Int.toNat_natCast, e3]; rfl) W) w
    · rw [e2]; exact order_f83_84_105_m_t (k : Int) (beq_eq_false_iff_ne.2 (by omega)) (beq_eq_false_iff_ne.2 (by omega)) (beq_eq_false_iff_ne.2 (by omega)) (beq_eq_false_iff_ne.2 (by omega)) (beq_eq_false_iff_ne.2 (by omega)) (beq_eq_false_iff_ne.2 (by omega)) (beq_eq_false_iff_ne.2 (by omega)) (beq_eq_false_iff_ne.2 (by omega)) (beq_eq_false_iff_ne.2 (by omega)) (beq_eq_false_iff_ne.2 (by omega)) (beq_eq_false_iff_ne.2 (by omega)) (fun W => fields_lit (k : Int) ⟨#[83, 84, 105]⟩ (by unfold fieldsS; rw [Int.toNat_natCast, e]; rfl) W) (fun W => kind_lit (k : Int) ⟨#[115, 116, 111, 114, 101]⟩ (by unfold kindOfB; rw [if_neg (by omega), Int.toNat_natCast, e3]; rfl) W) w
    · rw [e2]; exact order_f (k : Int) (beq_eq_false_iff_ne.2 (by omega)) (beq_eq_false_iff_ne.2 (by omega)) (beq_eq_false_iff_ne.2 (by omega)) (beq_eq_false_iff_ne.2 (by omega)) (beq_eq_false_iff_ne.2 (by omega)) (beq_eq_false_iff_ne.2 (by omega)) (beq_eq_false_iff_ne.2 (by omega)) (beq_eq_false_iff_ne.2 (by omega)) (beq_eq_false_iff_ne.2 (by omega)) (beq_eq_false_iff_ne.2 (by omega)) (beq_eq_false_iff_ne.2 (by omega)) (fun W => fields_lit (k : Int) ⟨#[]⟩ (by unfold fieldsS; rw [Int.toNat_natCast, e]; rfl) W) w
    · rw [e2]; exact order_f83 (k : Int) (beq_eq_false_iff_ne.2 (by omega)) (beq_eq_false_iff_ne.2 (by omega)) (beq_eq_false_iff_ne.2 (by omega)) (beq_eq_false_iff_ne.2 (by omega)) (beq_eq_false_iff_ne.2 (by omega)) (beq_eq_false_iff_ne.2 (by omega)) (beq_eq_false_iff_ne.2 (by omega)) (beq_eq_false_iff_ne.2 (by omega)) (beq_eq_false_iff_ne.2 (by omega)) (beq_eq_false_iff_ne.2 (by omega)) (beq_eq_false_iff_ne.2 (by omega)) (fun W => fields_lit (k : Int) ⟨#[83]⟩ (by unfold fieldsS; rw [Int.toNat_natCast, e]; rfl) W) w
    · rw [e2]; exact order_f83 (k : Int) (beq_eq_false_iff_ne.2 (by omega)) (beq_eq_false_iff_ne.2 (by omega)) (beq_eq_false_iff_ne.2 (by omega)) (beq_eq_false_iff_ne.2 (by omega)) (beq_eq_false_iff_ne.2 (by omega)) (beq_eq_false_iff_ne.2 (by omega)) (beq_eq_false_iff_ne.2 (by omega)) (beq_eq_false_iff_ne.2 (by omega)) (beq_eq_false_iff_ne.2 (by omega)) (beq_eq_false_iff_ne.2 (by omega)) (beq_eq_false_iff_ne.2 (by omega)) (fun W => fields_lit (k : Int) ⟨#[83]⟩ (by unfold fieldsS; rw [Int.toNat_natCast, e]; rfl) W) w
    · rw [e2]; exact order_f68 (k : Int) (beq_eq_false_iff_ne.2 (by omega)) (beq_eq_false_iff_ne.2 (by omega)) (beq_eq_false_iff_ne.2 (by omega)) (beq_eq_false_iff_ne.2 (by omega)) (beq_eq_false_iff_ne.2 (by omega)) (beq_eq_false_iff_ne.2 (by omega)) (beq_eq_false_iff_ne.2 (by omega)) (beq_eq_false_iff_ne.2 (by omega)) (beq_eq_false_iff_ne.2 (by omega)) (beq_eq_false_iff_ne.2 (by omega)) (beq_eq_false_iff_ne.2 (by omega)) (fun W => fields_lit (k : Int) ⟨#[68]⟩ (by unfold fieldsS; rw [Int.toNat_natCast, e]; rfl) W) w
    · rw [e2]; exact order_f83_84 (k : Int) (beq_eq_false_iff_ne.2 (by omega)) (beq_eq_false_iff_ne.2 (by omega)) (beq_eq_false_iff_ne.2 (by omega)) (beq_eq_false_iff_ne.2 (by omega)) (beq_eq_false_iff_ne.2 (by omega)) (beq_eq_false_iff_ne.2 (by omega)) (beq_eq_false_iff_ne.2 (by omega)) (beq_eq_false_iff_ne.2 (by omega)) (beq_eq_false_iff_ne.2 (by omega)) (beq_eq_false_iff_ne.2 (by omega)) (beq_eq_false_iff_ne.2 (by omega)) (fun W => fields_lit (k : Int) ⟨#[83, 84]⟩ (by unfold fieldsS; rw [Int.toNat_natCast, e]; rfl) W) w
    · rw [e2]; exact order_f106 (k : Int) (beq_eq_false_iff_ne.2 (by omega)) (beq_eq_false_iff_ne.2 (by omega)) (beq_eq_false_iff_ne.2 (by omega)) (beq_eq_false_iff_ne.2 (by omega)) (beq_eq_false_iff_ne.2 (by omega)) (beq_eq_false_iff_ne.2 (by omega)) (beq_eq_false_iff_ne.2 (by omega)) (beq_eq_false_iff_ne.2 (by omega)) (beq_eq_false_iff_ne.2 (by omega)) (beq_eq_false_iff_ne.2 (by omega)) (beq_eq_false_iff_ne.2 (by omega)) (fun W => fields_lit (k : Int) ⟨#[106]⟩ (by unfold fieldsS; rw [Int.toNat_natCast, e]; rfl) W) w
    · rw [e2]; exact order_f84_68 (k : Int) (beq_eq_false_iff_ne.2 (by omega)) (beq_eq_false_iff_ne.2 (by omega)) (beq_eq_false_iff_ne.2 (by omega)) (beq_eq_false_iff_ne.2 (by omega)) (beq_eq_false_iff_ne.2 (by omega)) (beq_eq_false_iff_ne.2 (by omega)) (beq_eq_false_iff_ne.2 (by omega)) (beq_eq_false_iff_ne.2 (by omega)) (beq_eq_false_iff_ne.2 (by omega)) (beq_eq_false_iff_ne.2 (by omega)) (beq_eq_false_iff_ne.2 (by omega)) (fun W => fields_lit (k : Int) ⟨#[84, 68]⟩ (by unfold fieldsS; rw [Int.toNat_natCast, e]; rfl) W) w
end Go.Proofs.YtnppegldebocmaaGreatDoor
