/- The walk of the document's matches. Conditions: as each theorem states. -/
import Derived.Test.YtnppegldebocmaaGreatDoorMatP
import Derived.Test.YtnppegldebocmaaGreatDoorIsOf
import Derived.Test.YtnppegldebocmaaGreatDoorWordR
import Derived.Deep.QuietTactic
import Derived.BigQuiet
namespace Go.Proofs.YtnppegldebocmaaGreatDoor
open Go.RowKit
set_option linter.unusedVariables false
set_option linter.unusedSimpArgs false
theorem part_lit (x : Int) (u b : Nat) (d m : Int) (hd : p2 u = d) (hm : p2 b = m) (h0 : 0 ≤ x) (h1 : x < 4294967296) (hu : u < 32) (hb : b < 32) (w : World) :
    Calls Tryz.prog 88 #[.int .u32 x, .int .i64 (u : Int), .int .i64 (b : Int)] w fun e w' => e = .returned (.int .i64 (x / d % m)) ∧ w = w' := by
  subst hd hm
  exact part_any x u b h0 h1 hu hb w
abbrev rowV (k : Nat) : Value := .agg #[.string (bsl (nameB k)), .int .i64 (majorN k : Int), .int .i64 (minorN k : Int), .string (bsl (fieldsB k)), .string (bsl (orderB k)), .string (bsl (kindB k))]
set_option maxHeartbeats 1000000 in
theorem matches_wrong (x : Nat) (k : Nat) (hx : x < 4294967296) (hm : ¬ x / 67108864 = majorN k) (w : World) :
    Calls Tryz.prog 87 #[.int .u32 (x : Int), rowV k] w fun e w' => e = .returned (.bool false) ∧ Below w.heap.size w w' := by
  have hP : ∀ W, Calls Tryz.prog 88 #[.int .u32 (x : Int), .int .i64 26, .int .i64 6] W fun e w' => e = .returned (.int .i64 ((x : Int) / 67108864 % 64)) ∧ W = w' := fun W => part_lit (x : Int) 26 6 67108864 64 (by decide) (by decide) (by omega) (by omega) (by decide) (by decide) W
  have HP := Lib.hid hP
  clear hP
  have hne : ((x : Int) / 67108864 % 64 != (majorN k : Int)) = true := by rw [bne_iff_ne]; omega
  clear hm
  go_enter Tryz.func87, Tryz.ntmps87
  go_wp2_with fail
  go_quiet ((go_at_call 88; exact Calls.quiet_of_same ((HP.out _).mono fun _ _ h => ⟨h.1, h.2.symm⟩)))
  go_wp2
  go_ret
  exact ⟨rfl, below_drewN (by go_grown) _⟩
theorem tab_6 : ∀ k, k < 54 → ((majorN k = 0 ∧ (fieldsB k = [] ∨ fieldsB k = [83] ∨ fieldsB k = [68] ∨ fieldsB k = [83, 68] ∨ fieldsB k = [83, 84] ∨ fieldsB k = [84, 68, 97] ∨ fieldsB k = [83, 84, 68])) ∨
    (majorN k = 16 ∧ ((fieldsB k = [84, 68] ∧ ¬ minorN k = 16) ∨ (fieldsB k = [] ∧ minorN k = 16))) ∨ (¬ majorN k = 0 ∧ ¬ majorN k = 16 ∧ (fieldsB k = [106] ∨ fieldsB k = [83, 84, 105] ∨ fieldsB k = [83, 105] ∨ fieldsB k = [84, 105]))) := by decide +kernel
set_option maxHeartbeats 1000000 in
theorem mat_0_ (x : Nat) (hx : x < 4294967296) (nm od kd : Value) (mi : Nat) (hmi : mi < 64) (h0 : x / 67108864 = 0) (b : Bool) (hb : (decide (x / 2097152 % 32 = 0) && decide (x / 65536 % 32 = 0) && decide (x / 2048 % 32 = 0) && decide (x / 64 % 32 = 0) && decide (x % 64 = mi)) = b) (w : World) :
    Calls Tryz.prog 87 #[.int .u32 (x : Int), .agg #[nm, .int .i64 0, .int .i64 (mi : Int), .string (bsl []), od, kd]] w fun e w' => e = .returned (.bool b) ∧ Below w.heap.size w w' := by
  have i106 := Lib.hid (fun W => isOf_lit [] (by decide) 106 106 (by decide) false (by rfl) W)
  have i83 := Lib.hid (fun W => isOf_lit [] (by decide) 83 83 (by decide) false (by rfl) W)
  have i84 := Lib.hid (fun W => isOf_lit [] (by decide) 84 84 (by decide) false (by rfl) W)
  have i105 := Lib.hid (fun W => isOf_lit [] (by decide) 105 105 (by decide) false (by rfl) W)
  have i68 := Lib.hid (fun W => isOf_lit [] (by decide) 68 68 (by decide) false (by rfl) W)
  have i97 := Lib.hid (fun W => isOf_lit [] (by decide) 97 97 (by decide) false (by rfl) W)
  have q26 : Hid (∀ W, Calls Tryz.prog 88 #[.int .u32 (x : Int), .int .i64 26, .int .i64 6] W fun e w' => e = .returned (.int .i64 ((x : Int) / 67108864 % 64)) ∧ W = w') := fun W => part_lit (x : Int) 26 6 67108864 64 (by decide) (by decide) (by omega) (by omega) (by decide) (by decide) W
  have q21 : Hid (∀ W, Calls Tryz.prog 88 #[.int .u32 (x : Int), .int .i64 21, .int .i64 5] W fun e w' => e = .returned (.int .i64 ((x : Int) / 2097152 % 32)) ∧ W = w') := fun W => part_lit (x : Int) 21 5 2097152 32 (by decide) (by decide) (by omega) (by omega) (by decide) (by decide) W
  have q16 : Hid (∀ W, Calls Tryz.prog 88 #[.int .u32 (x : Int), .int .i64 16, .int .i64 5] W fun e w' => e = .returned (.int .i64 ((x : Int) / 65536 % 32)) ∧ W = w') := fun W => part_lit (x : Int) 16 5 65536 32 (by decide) (by decide) (by omega) (by omega) (by decide) (by decide) W
  have q11 : Hid (∀ W, Calls Tryz.prog 88 #[.int .u32 (x : Int), .int .i64 11, .int .i64 5] W fun e w' => e = .returned (.int .i64 ((x : Int) / 2048 % 32)) ∧ W = w') := fun W => part_lit (x : Int) 11 5 2048 32 (by decide) (by decide) (by omega) (by omega) (by decide) (by decide) W
  have q6 : Hid (∀ W, Calls Tryz.prog 88 #[.int .u32 (x : Int), .int .i64 6, .int .i64 5] W fun e w' => e = .returned (.int .i64 ((x : Int) / 64 % 32)) ∧ W = w') := fun W => part_lit (x : Int) 6 5 64 32 (by decide) (by decide) (by omega) (by omega) (by decide) (by decide) W
  have q0 : Hid (∀ W, Calls Tryz.prog 88 #[.int .u32 (x : Int), .int .i64 0, .int .i64 6] W fun e w' => e = .returned (.int .i64 ((x : Int) / 1 % 64)) ∧ W = w') := fun W => part_lit (x : Int) 0 6 1 64 (by decide) (by decide) (by omega) (by omega) (by decide) (by decide) W
  have hne : ((x : Int) / 67108864 % 64 != 0) = false := by rw [bne_eq_false_iff_eq]; omega
  have HB := Lib.hid hb
  clear h0 hb
  go_enter Tryz.func87, Tryz.ntmps87
  go_wp2_with fail
  go_quiet ((go_at_call 88; exact Calls.quiet_of_same ((q26.out _).mono fun _ _ h => ⟨h.1, h.2.symm⟩)))
  go_wp2_with (first | (go_at_call 32; (with_reducible refine (i106.out _).mono ?_); rintro e w' ⟨rfl, rfl⟩) | (go_at_call 32; (with_reducible refine (i83.out _).mono ?_); rintro e w' ⟨rfl, rfl⟩) | (go_at_call 32; (with_reducible refine (i84.out _).mono ?_); rintro e w' ⟨rfl, rfl⟩) | (go_at_call 32; (with_reducible refine (i105.out _).mono ?_); rintro e w' ⟨rfl, rfl⟩) | (go_at_call 32; (with_reducible refine (i68.out _).mono ?_); rintro e w' ⟨rfl, rfl⟩) | (go_at_call 32; (with_reducible refine (i97.out _).mono ?_); rintro e w' ⟨rfl, rfl⟩) | (go_at_call 88; (with_reducible refine (q21.out _).mono ?_); rintro e w' ⟨rfl, rfl⟩) | (go_at_call 88; (with_reducible refine (q16.out _).mono ?_); rintro e w' ⟨rfl, rfl⟩) | (go_at_call 88; (with_reducible refine (q11.out _).mono ?_); rintro e w' ⟨rfl, rfl⟩) | (go_at_call 88; (with_reducible refine (q6.out _).mono ?_); rintro e w' ⟨rfl, rfl⟩) | (go_at_call 88; (with_reducible refine (q0.out _).mono ?_); rintro e w' ⟨rfl, rfl⟩))
  all_goals
    go_ret
    refine ⟨?_, below_drewN (by go_grown) _⟩
    refine congrArg (fun c => Ending.returned (.bool c)) ?_
    rewrite [← HB.out]
    clear HB i106 i83 i84 i105 i68 i97 q26 q21 q16 q11 q6 q0
    (first | rfl | (rw [Bool.eq_iff_iff]; simp only [bne_iff_ne, bne_eq_false_iff_eq, ne_eq, beq_iff_eq, Bool.and_eq_true, decide_eq_true_eq, Bool.false_eq_true, true_iff, false_iff] at *; omega))
set_option maxHeartbeats 1000000 in
theorem mat_0_83 (x : Nat) (hx : x < 4294967296) (nm od kd : Value) (mi : Nat) (hmi : mi < 64) (h0 : x / 67108864 = 0) (b : Bool) (hb : (decide (x / 65536 % 32 = 0) && decide (x / 2048 % 32 = 0) && decide (x / 64 % 32 = 0) && decide (x % 64 = mi)) = b) (w : World) :
    Calls Tryz.prog 87 #[.int .u32 (x : Int), .agg #[nm, .int .i64 0, .int .i64 (mi : Int), .string (bsl [83]), od, kd]] w fun e w' => e = .returned (.bool b) ∧ Below w.heap.size w w' := by
  have i106 := Lib.hid (fun W => isOf_lit [83] (by decide) 106 106 (by decide) false (by rfl) W)
  have i83 := Lib.hid (fun W => isOf_lit [83] (by decide) 83 83 (by decide) true (by rfl) W)
  have i84 := Lib.hid (fun W => isOf_lit [83] (by decide) 84 84 (by decide) false (by rfl) W)
  have i105 := Lib.hid (fun W => isOf_lit [83] (by decide) 105 105 (by decide) false (by rfl) W)
  have i68 := Lib.hid (fun W => isOf_lit [83] (by decide) 68 68 (by decide) false (by rfl) W)
  have i97 := Lib.hid (fun W => isOf_lit [83] (by decide) 97 97 (by decide) false (by rfl) W)
  have q26 : Hid (∀ W, Calls Tryz.prog 88 #[.int .u32 (x : Int), .int .i64 26, .int .i64 6] W fun e w' => e = .returned (.int .i64 ((x : Int) / 67108864 % 64)) ∧ W = w') := fun W => part_lit (x : Int) 26 6 67108864 64 (by decide) (by decide) (by omega) (by omega) (by decide) (by decide) W
  have q21 : Hid (∀ W, Calls Tryz.prog 88 #[.int .u32 (x : Int), .int .i64 21, .int .i64 5] W fun e w' => e = .returned (.int .i64 ((x : Int) / 2097152 % 32)) ∧ W = w') := fun W => part_lit (x : Int) 21 5 2097152 32 (by decide) (by decide) (by omega) (by omega) (by decide) (by decide) W
  have q16 : Hid (∀ W, Calls Tryz.prog 88 #[.int .u32 (x : Int), .int .i64 16, .int .i64 5] W fun e w' => e = .returned (.int .i64 ((x : Int) / 65536 % 32)) ∧ W = w') := fun W => part_lit (x : Int) 16 5 65536 32 (by decide) (by decide) (by omega) (by omega) (by decide) (by decide) W
  have q11 : Hid (∀ W, Calls Tryz.prog 88 #[.int .u32 (x : Int), .int .i64 11, .int .i64 5] W fun e w' => e = .returned (.int .i64 ((x : Int) / 2048 % 32)) ∧ W = w') := fun W => part_lit (x : Int) 11 5 2048 32 (by decide) (by decide) (by omega) (by omega) (by decide) (by decide) W
  have q6 : Hid (∀ W, Calls Tryz.prog 88 #[.int .u32 (x : Int), .int .i64 6, .int .i64 5] W fun e w' => e = .returned (.int .i64 ((x : Int) / 64 % 32)) ∧ W = w') := fun W => part_lit (x : Int) 6 5 64 32 (by decide) (by decide) (by omega) (by omega) (by decide) (by decide) W
  have q0 : Hid (∀ W, Calls Tryz.prog 88 #[.int .u32 (x : Int), .int .i64 0, .int .i64 6] W fun e w' => e = .returned (.int .i64 ((x : Int) / 1 % 64)) ∧ W = w') := fun W => part_lit (x : Int) 0 6 1 64 (by decide) (by decide) (by omega) (by omega) (by decide) (by decide) W
  have hne : ((x : Int) / 67108864 % 64 != 0) = false := by rw [bne_eq_false_iff_eq]; omega
  have HB := Lib.hid hb
  clear h0 hb
  go_enter Tryz.func87, Tryz.ntmps87
  go_wp2_with fail
  go_quiet ((go_at_call 88; exact Calls.quiet_of_same ((q26.out _).mono fun _ _ h => ⟨h.1, h.2.symm⟩)))
  go_wp2_with (first | (go_at_call 32; (with_reducible refine (i106.out _).mono ?_); rintro e w' ⟨rfl, rfl⟩) | (go_at_call 32; (with_reducible refine (i83.out _).mono ?_); rintro e w' ⟨rfl, rfl⟩) | (go_at_call 32; (with_reducible refine (i84.out _).mono ?_); rintro e w' ⟨rfl, rfl⟩) | (go_at_call 32; (with_reducible refine (i105.out _).mono ?_); rintro e w' ⟨rfl, rfl⟩) | (go_at_call 32; (with_reducible refine (i68.out _).mono ?_); rintro e w' ⟨rfl, rfl⟩) | (go_at_call 32; (with_reducible refine (i97.out _).mono ?_); rintro e w' ⟨rfl, rfl⟩) | (go_at_call 88; (with_reducible refine (q21.out _).mono ?_); rintro e w' ⟨rfl, rfl⟩) | (go_at_call 88; (with_reducible refine (q16.out _).mono ?_); rintro e w' ⟨rfl, rfl⟩) | (go_at_call 88; (with_reducible refine (q11.out _).mono ?_); rintro e w' ⟨rfl, rfl⟩) | (go_at_call 88; (with_reducible refine (q6.out _).mono ?_); rintro e w' ⟨rfl, rfl⟩) | (go_at_call 88; (with_reducible refine (q0.out _).mono ?_); rintro e w' ⟨rfl, rfl⟩))
  all_goals
    go_ret
    refine ⟨?_, below_drewN (by go_grown) _⟩
    refine congrArg (fun c => Ending.returned (.bool c)) ?_
    rewrite [← HB.out]
    clear HB i106 i83 i84 i105 i68 i97 q26 q21 q16 q11 q6 q0
    (first | rfl | (rw [Bool.eq_iff_iff]; simp only [bne_iff_ne, bne_eq_false_iff_eq, ne_eq, beq_iff_eq, Bool.and_eq_true, decide_eq_true_eq, Bool.false_eq_true, true_iff, false_iff] at *; omega))
set_option maxHeartbeats 1000000 in
theorem mat_0_68 (x : Nat) (hx : x < 4294967296) (nm od kd : Value) (mi : Nat) (hmi : mi < 64) (h0 : x / 67108864 = 0) (b : Bool) (hb : (decide (x / 2097152 % 32 = 0) && decide (x / 65536 % 32 = 0) && decide (x / 64 % 32 = 0) && decide (x % 64 = mi)) = b) (w : World) :
    Calls Tryz.prog 87 #[.int .u32 (x : Int), .agg #[nm, .int .i64 0, .int .i64 (mi : Int), .string (bsl [68]), od, kd]] w fun e w' => e = .returned (.bool b) ∧ Below w.heap.size w w' := by
  have i106 := Lib.hid (fun W => isOf_lit [68] (by decide) 106 106 (by decide) false (by rfl) W)
  have i83 := Lib.hid (fun W => isOf_lit [68] (by decide) 83 83 (by decide) false (by rfl) W)
  have i84 := Lib.hid (fun W => isOf_lit [68] (by decide) 84 84 (by decide) false (by rfl) W)
  have i105 := Lib.hid (fun W => isOf_lit [68] (by decide) 105 105 (by decide) false (by rfl) W)
  have i68 := Lib.hid (fun W => isOf_lit [68] (by decide) 68 68 (by decide) true (by rfl) W)
  have i97 := Lib.hid (fun W => isOf_lit [68] (by decide) 97 97 (by decide) false (by rfl) W)
  have q26 : Hid (∀ W, Calls Tryz.prog 88 #[.int .u32 (x : Int), .int .i64 26, .int .i64 6] W fun e w' => e = .returned (.int .i64 ((x : Int) / 67108864 % 64)) ∧ W = w') := fun W => part_lit (x : Int) 26 6 67108864 64 (by decide) (by decide) (by omega) (by omega) (by decide) (by decide) W
  have q21 : Hid (∀ W, Calls Tryz.prog 88 #[.int .u32 (x : Int), .int .i64 21, .int .i64 5] W fun e w' => e = .returned (.int .i64 ((x : Int) / 2097152 % 32)) ∧ W = w') := fun W => part_lit (x : Int) 21 5 2097152 32 (by decide) (by decide) (by omega) (by omega) (by decide) (by decide) W
  have q16 : Hid (∀ W, Calls Tryz.prog 88 #[.int .u32 (x : Int), .int .i64 16, .int .i64 5] W fun e w' => e = .returned (.int .i64 ((x : Int) / 65536 % 32)) ∧ W = w') := fun W => part_lit (x : Int) 16 5 65536 32 (by decide) (by decide) (by omega) (by omega) (by decide) (by decide) W
  have q11 : Hid (∀ W, Calls Tryz.prog 88 #[.int .u32 (x : Int), .int .i64 11, .int .i64 5] W fun e w' => e = .returned (.int .i64 ((x : Int) / 2048 % 32)) ∧ W = w') := fun W => part_lit (x : Int) 11 5 2048 32 (by decide) (by decide) (by omega) (by omega) (by decide) (by decide) W
  have q6 : Hid (∀ W, Calls Tryz.prog 88 #[.int .u32 (x : Int), .int .i64 6, .int .i64 5] W fun e w' => e = .returned (.int .i64 ((x : Int) / 64 % 32)) ∧ W = w') := fun W => part_lit (x : Int) 6 5 64 32 (by decide) (by decide) (by omega) (by omega) (by decide) (by decide) W
  have q0 : Hid (∀ W, Calls Tryz.prog 88 #[.int .u32 (x : Int), .int .i64 0, .int .i64 6] W fun e w' => e = .returned (.int .i64 ((x : Int) / 1 % 64)) ∧ W = w') := fun W => part_lit (x : Int) 0 6 1 64 (by decide) (by decide) (by omega) (by omega) (by decide) (by decide) W
  have hne : ((x : Int) / 67108864 % 64 != 0) = false := by rw [bne_eq_false_iff_eq]; omega
  have HB := Lib.hid hb
  clear h0 hb
  go_enter Tryz.func87, Tryz.ntmps87
  go_wp2_with fail
  go_quiet ((go_at_call 88; exact Calls.quiet_of_same ((q26.out _).mono fun _ _ h => ⟨h.1, h.2.symm⟩)))
  go_wp2_with (first | (go_at_call 32; (with_reducible refine (i106.out _).mono ?_); rintro e w' ⟨rfl, rfl⟩) | (go_at_call 32; (with_reducible refine (i83.out _).mono ?_); rintro e w' ⟨rfl, rfl⟩) | (go_at_call 32; (with_reducible refine (i84.out _).mono ?_); rintro e w' ⟨rfl, rfl⟩) | (go_at_call 32; (with_reducible refine (i105.out _).mono ?_); rintro e w' ⟨rfl, rfl⟩) | (go_at_call 32; (with_reducible refine (i68.out _).mono ?_); rintro e w' ⟨rfl, rfl⟩) | (go_at_call 32; (with_reducible refine (i97.out _).mono ?_); rintro e w' ⟨rfl, rfl⟩) | (go_at_call 88; (with_reducible refine (q21.out _).mono ?_); rintro e w' ⟨rfl, rfl⟩) | (go_at_call 88; (with_reducible refine (q16.out _).mono ?_); rintro e w' ⟨rfl, rfl⟩) | (go_at_call 88; (with_reducible refine (q11.out _).mono ?_); rintro e w' ⟨rfl, rfl⟩) | (go_at_call 88; (with_reducible refine (q6.out _).mono ?_); rintro e w' ⟨rfl, rfl⟩) | (go_at_call 88; (with_reducible refine (q0.out _).mono ?_); rintro e w' ⟨rfl, rfl⟩))
  all_goals
    go_ret
    refine ⟨?_, below_drewN (by go_grown) _⟩
    refine congrArg (fun c => Ending.returned (.bool c)) ?_
    rewrite [← HB.out]
    clear HB i106 i83 i84 i105 i68 i97 q26 q21 q16 q11 q6 q0
    (first | rfl | (rw [Bool.eq_iff_iff]; simp only [bne_iff_ne, bne_eq_false_iff_eq, ne_eq, beq_iff_eq, Bool.and_eq_true, decide_eq_true_eq, Bool.false_eq_true, true_iff, false_iff] at *; omega))
set_option maxHeartbeats 1000000 in
theorem mat_0_83_68 (x : Nat) (hx : x < 4294967296) (nm od kd : Value) (mi : Nat) (hmi : mi < 64) (h0 : x / 67108864 = 0) (b : Bool) (hb : (decide (x / 65536 % 32 = 0) && decide (x / 64 % 32 = 0) && decide (x % 64 = mi)) = b) (w : World) :
    Calls Tryz.prog 87 #[.int .u32 (x : Int), .agg #[nm, .int .i64 0, .int .i64 (mi : Int), .string (bsl [83, 68]), od, kd]] w fun e w' => e = .returned (.bool b) ∧ Below w.heap.size w w' := by
  have i106 := Lib.hid (fun W => isOf_lit [83, 68] (by decide) 106 106 (by decide) false (by rfl) W)
  have i83 := Lib.hid (fun W => isOf_lit [83, 68] (by decide) 83 83 (by decide) true (by rfl) W)
  have i84 := Lib.hid (fun W => isOf_lit [83, 68] (by decide) 84 84 (by decide) false (by rfl) W)
  have i105 := Lib.hid (fun W => isOf_lit [83, 68] (by decide) 105 105 (by decide) false (by rfl) W)
  have i68 := Lib.hid (fun W => isOf_lit [83, 68] (by decide) 68 68 (by decide) true (by rfl) W)
  have i97 := Lib.hid (fun W => isOf_lit [83, 68] (by decide) 97 97 (by decide) false (by rfl) W)
  have q26 : Hid (∀ W, Calls Tryz.prog 88 #[.int .u32 (x : Int), .int .i64 26, .int .i64 6] W fun e w' => e = .returned (.int .i64 ((x : Int) / 67108864 % 64)) ∧ W = w') := fun W => part_lit (x : Int) 26 6 67108864 64 (by decide) (by decide) (by omega) (by omega) (by decide) (by decide) W
  have q21 : Hid (∀ W, Calls Tryz.prog 88 #[.int .u32 (x : Int), .int .i64 21, .int .i64 5] W fun e w' => e = .returned (.int .i64 ((x : Int) / 2097152 % 32)) ∧ W = w') := fun W => part_lit (x : Int) 21 5 2097152 32 (by decide) (by decide) (by omega) (by omega) (by decide) (by decide) W
  have q16 : Hid (∀ W, Calls Tryz.prog 88 #[.int .u32 (x : Int), .int .i64 16, .int .i64 5] W fun e w' => e = .returned (.int .i64 ((x : Int) / 65536 % 32)) ∧ W = w') := fun W => part_lit (x : Int) 16 5 65536 32 (by decide) (by decide) (by omega) (by omega) (by decide) (by decide) W
  have q11 : Hid (∀ W, Calls Tryz.prog 88 #[.int .u32 (x : Int), .int .i64 11, .int .i64 5] W fun e w' => e = .returned (.int .i64 ((x : Int) / 2048 % 32)) ∧ W = w') := fun W => part_lit (x : Int) 11 5 2048 32 (by decide) (by decide) (by omega) (by omega) (by decide) (by decide) W
  have q6 : Hid (∀ W, Calls Tryz.prog 88 #[.int .u32 (x : Int), .int .i64 6, .int .i64 5] W fun e w' => e = .returned (.int .i64 ((x : Int) / 64 % 32)) ∧ W = w') := fun W => part_lit (x : Int) 6 5 64 32 (by decide) (by decide) (by omega) (by omega) (by decide) (by decide) W
  have q0 : Hid (∀ W, Calls Tryz.prog 88 #[.int .u32 (x : Int), .int .i64 0, .int .i64 6] W fun e w' => e = .returned (.int .i64 ((x : Int) / 1 % 64)) ∧ W = w') := fun W => part_lit (x : Int) 0 6 1 64 (by decide) (by decide) (by omega) (by omega) (by decide) (by decide) W
  have hne : ((x : Int) / 67108864 % 64 != 0) = false := by rw [bne_eq_false_iff_eq]; omega
  have HB := Lib.hid hb
  clear h0 hb
  go_enter Tryz.func87, Tryz.ntmps87
  go_wp2_with fail
  go_quiet ((go_at_call 88; exact Calls.quiet_of_same ((q26.out _).mono fun _ _ h => ⟨h.1, h.2.symm⟩)))
  go_wp2_with (first | (go_at_call 32; (with_reducible refine (i106.out _).mono ?_); rintro e w' ⟨rfl, rfl⟩) | (go_at_call 32; (with_reducible refine (i83.out _).mono ?_); rintro e w' ⟨rfl, rfl⟩) | (go_at_call 32; (with_reducible refine (i84.out _).mono ?_); rintro e w' ⟨rfl, rfl⟩) | (go_at_call 32; (with_reducible refine (i105.out _).mono ?_); rintro e w' ⟨rfl, rfl⟩) | (go_at_call 32; (with_reducible refine (i68.out _).mono ?_); rintro e w' ⟨rfl, rfl⟩) | (go_at_call 32; (with_reducible refine (i97.out _).mono ?_); rintro e w' ⟨rfl, rfl⟩) | (go_at_call 88; (with_reducible refine (q21.out _).mono ?_); rintro e w' ⟨rfl, rfl⟩) | (go_at_call 88; (with_reducible refine (q16.out _).mono ?_); rintro e w' ⟨rfl, rfl⟩) | (go_at_call 88; (with_reducible refine (q11.out _).mono ?_); rintro e w' ⟨rfl, rfl⟩) | (go_at_call 88; (with_reducible refine (q6.out _).mono ?_); rintro e w' ⟨rfl, rfl⟩) | (go_at_call 88; (with_reducible refine (q0.out _).mono ?_); rintro e w' ⟨rfl, rfl⟩))
  all_goals
    go_ret
    refine ⟨?_, below_drewN (by go_grown) _⟩
    refine congrArg (fun c => Ending.returned (.bool c)) ?_
    rewrite [← HB.out]
    clear HB i106 i83 i84 i105 i68 i97 q26 q21 q16 q11 q6 q0
    (first | rfl | (rw [Bool.eq_iff_iff]; simp only [bne_iff_ne, bne_eq_false_iff_eq, ne_eq, beq_iff_eq, Bool.and_eq_true, decide_eq_true_eq, Bool.false_eq_true, true_iff, false_iff] at *; omega))
set_option maxHeartbeats 1000000 in
theorem mat_0_83_84 (x : Nat) (hx : x < 4294967296) (nm od kd : Value) (mi : Nat) (hmi : mi < 64) (h0 : x / 67108864 = 0) (b : Bool) (hb : (decide (x / 2048 % 32 = 0) && decide (x / 64 % 32 = 0) && decide (x % 64 = mi)) = b) (w : World) :
    Calls Tryz.prog 87 #[.int .u32 (x : Int), .agg #[nm, .int .i64 0, .int .i64 (mi : Int), .string (bsl [83, 84]), od, kd]] w fun e w' => e = .returned (.bool b) ∧ Below w.heap.size w w' := by
  have i106 := Lib.hid (fun W => isOf_lit [83, 84] (by decide) 106 106 (by decide) false (by rfl) W)
  have i83 := Lib.hid (fun W => isOf_lit [83, 84] (by decide) 83 83 (by decide) true (by rfl) W)
  have i84 := Lib.hid (fun W => isOf_lit [83, 84] (by decide) 84 84 (by decide) true (by rfl) W)
  have i105 := Lib.hid (fun W => isOf_lit [83, 84] (by decide) 105 105 (by decide) false (by rfl) W)
  have i68 := Lib.hid (fun W => isOf_lit [83, 84] (by decide) 68 68 (by decide) false (by rfl) W)
  have i97 := Lib.hid (fun W => isOf_lit [83, 84] (by decide) 97 97 (by decide) false (by rfl) W)
  have q26 : Hid (∀ W, Calls Tryz.prog 88 #[.int .u32 (x : Int), .int .i64 26, .int .i64 6] W fun e w' => e = .returned (.int .i64 ((x : Int) / 67108864 % 64)) ∧ W = w') := fun W => part_lit (x : Int) 26 6 67108864 64 (by decide) (by decide) (by omega) (by omega) (by decide) (by decide) W
  have q21 : Hid (∀ W, Calls Tryz.prog 88 #[.int .u32 (x : Int), .int .i64 21, .int .i64 5] W fun e w' => e = .returned (.int .i64 ((x : Int) / 2097152 % 32)) ∧ W = w') := fun W => part_lit (x : Int) 21 5 2097152 32 (by decide) (by decide) (by omega) (by omega) (by decide) (by decide) W
  have q16 : Hid (∀ W, Calls Tryz.prog 88 #[.int .u32 (x : Int), .int .i64 16, .int .i64 5] W fun e w' => e = .returned (.int .i64 ((x : Int) / 65536 % 32)) ∧ W = w') := fun W => part_lit (x : Int) 16 5 65536 32 (by decide) (by decide) (by omega) (by omega) (by decide) (by decide) W
  have q11 : Hid (∀ W, Calls Tryz.prog 88 #[.int .u32 (x : Int), .int .i64 11, .int .i64 5] W fun e w' => e = .returned (.int .i64 ((x : Int) / 2048 % 32)) ∧ W = w') := fun W => part_lit (x : Int) 11 5 2048 32 (by decide) (by decide) (by omega) (by omega) (by decide) (by decide) W
  have q6 : Hid (∀ W, Calls Tryz.prog 88 #[.int .u32 (x : Int), .int .i64 6, .int .i64 5] W fun e w' => e = .returned (.int .i64 ((x : Int) / 64 % 32)) ∧ W = w') := fun W => part_lit (x : Int) 6 5 64 32 (by decide) (by decide) (by omega) (by omega) (by decide) (by decide) W
  have q0 : Hid (∀ W, Calls Tryz.prog 88 #[.int .u32 (x : Int), .int .i64 0, .int .i64 6] W fun e w' => e = .returned (.int .i64 ((x : Int) / 1 % 64)) ∧ W = w') := fun W => part_lit (x : Int) 0 6 1 64 (by decide) (by decide) (by omega) (by omega) (by decide) (by decide) W
  have hne : ((x : Int) / 67108864 % 64 != 0) = false := by rw [bne_eq_false_iff_eq]; omega
  have HB := Lib.hid hb
  clear h0 hb
  go_enter Tryz.func87, Tryz.ntmps87
  go_wp2_with fail
  go_quiet ((go_at_call 88; exact Calls.quiet_of_same ((q26.out _).mono fun _ _ h => ⟨h.1, h.2.symm⟩)))
  go_wp2_with (first | (go_at_call 32; (with_reducible refine (i106.out _).mono ?_); rintro e w' ⟨rfl, rfl⟩) | (go_at_call 32; (with_reducible refine (i83.out _).mono ?_); rintro e w' ⟨rfl, rfl⟩) | (go_at_call 32; (with_reducible refine (i84.out _).mono ?_); rintro e w' ⟨rfl, rfl⟩) | (go_at_call 32; (with_reducible refine (i105.out _).mono ?_); rintro e w' ⟨rfl, rfl⟩) | (go_at_call 32; (with_reducible refine (i68.out _).mono ?_); rintro e w' ⟨rfl, rfl⟩) | (go_at_call 32; (with_reducible refine (i97.out _).mono ?_); rintro e w' ⟨rfl, rfl⟩) | (go_at_call 88; (with_reducible refine (q21.out _).mono ?_); rintro e w' ⟨rfl, rfl⟩) | (go_at_call 88; (with_reducible refine (q16.out _).mono ?_); rintro e w' ⟨rfl, rfl⟩) | (go_at_call 88; (with_reducible refine (q11.out _).mono ?_); rintro e w' ⟨rfl, rfl⟩) | (go_at_call 88; (with_reducible refine (q6.out _).mono ?_); rintro e w' ⟨rfl, rfl⟩) | (go_at_call 88; (with_reducible refine (q0.out _).mono ?_); rintro e w' ⟨rfl, rfl⟩))
  all_goals
    go_ret
    refine ⟨?_, below_drewN (by go_grown) _⟩
    refine congrArg (fun c => Ending.returned (.bool c)) ?_
    rewrite [← HB.out]
    clear HB i106 i83 i84 i105 i68 i97 q26 q21 q16 q11 q6 q0
    (first | rfl | (rw [Bool.eq_iff_iff]; simp only [bne_iff_ne, bne_eq_false_iff_eq, ne_eq, beq_iff_eq, Bool.and_eq_true, decide_eq_true_eq, Bool.false_eq_true, true_iff, false_iff] at *; omega))
set_option maxHeartbeats 1000000 in
theorem mat_0_84_68_97 (x : Nat) (hx : x < 4294967296) (nm od kd : Value) (mi : Nat) (hmi : mi < 64) (h0 : x / 67108864 = 0) (b : Bool) (hb : (decide (x / 2097152 % 32 = 0) && decide (x % 64 = mi)) = b) (w : World) :
    Calls Tryz.prog 87 #[.int .u32 (x : Int), .agg #[nm, .int .i64 0, .int .i64 (mi : Int), .string (bsl [84, 68, 97]), od, kd]] w fun e w' => e = .returned (.bool b) ∧ Below w.heap.size w w' := by
  have i106 := Lib.hid (fun W => isOf_lit [84, 68, 97] (by decide) 106 106 (by decide) false (by rfl) W)
  have i83 := Lib.hid (fun W => isOf_lit [84, 68, 97] (by decide) 83 83 (by decide) false (by rfl) W)
  have i84 := Lib.hid (fun W => isOf_lit [84, 68, 97] (by decide) 84 84 (by decide) true (by rfl) W)
  have i105 := Lib.hid (fun W => isOf_lit [84, 68, 97] (by decide) 105 105 (by decide) false (by rfl) W)
  have i68 := Lib.hid (fun W => isOf_lit [84, 68, 97] (by decide) 68 68 (by decide) true (by rfl) W)
  have i97 := Lib.hid (fun W => isOf_lit [84, 68, 97] (by decide) 97 97 (by decide) true (by rfl) W)
  have q26 : Hid (∀ W, Calls Tryz.prog 88 #[.int .u32 (x : Int), .int .i64 26, .int .i64 6] W fun e w' => e = .returned (.int .i64 ((x : Int) / 67108864 % 64)) ∧ W = w') := fun W => part_lit (x : Int) 26 6 67108864 64 (by decide) (by decide) (by omega) (by omega) (by decide) (by decide) W
  have q21 : Hid (∀ W, Calls Tryz.prog 88 #[.int .u32 (x : Int), .int .i64 21, .int .i64 5] W fun e w' => e = .returned (.int .i64 ((x : Int) / 2097152 % 32)) ∧ W = w') := fun W => part_lit (x : Int) 21 5 2097152 32 (by decide) (by decide) (by omega) (by omega) (by decide) (by decide) W
  have q16 : Hid (∀ W, Calls Tryz.prog 88 #[.int .u32 (x : Int), .int .i64 16, .int .i64 5] W fun e w' => e = .returned (.int .i64 ((x : Int) / 65536 % 32)) ∧ W = w') := fun W => part_lit (x : Int) 16 5 65536 32 (by decide) (by decide) (by omega) (by omega) (by decide) (by decide) W
  have q11 : Hid (∀ W, Calls Tryz.prog 88 #[.int .u32 (x : Int), .int .i64 11, .int .i64 5] W fun e w' => e = .returned (.int .i64 ((x : Int) / 2048 % 32)) ∧ W = w') := fun W => part_lit (x : Int) 11 5 2048 32 (by decide) (by decide) (by omega) (by omega) (by decide) (by decide) W
  have q6 : Hid (∀ W, Calls Tryz.prog 88 #[.int .u32 (x : Int), .int .i64 6, .int .i64 5] W fun e w' => e = .returned (.int .i64 ((x : Int) / 64 % 32)) ∧ W = w') := fun W => part_lit (x : Int) 6 5 64 32 (by decide) (by decide) (by omega) (by omega) (by decide) (by decide) W
  have q0 : Hid (∀ W, Calls Tryz.prog 88 #[.int .u32 (x : Int), .int .i64 0, .int .i64 6] W fun e w' => e = .returned (.int .i64 ((x : Int) / 1 % 64)) ∧ W = w') := fun W => part_lit (x : Int) 0 6 1 64 (by decide) (by decide) (by omega) (by omega) (by decide) (by decide) W
  have hne : ((x : Int) / 67108864 % 64 != 0) = false := by rw [bne_eq_false_iff_eq]; omega
  have HB := Lib.hid hb
  clear h0 hb
  go_enter Tryz.func87, Tryz.ntmps87
  go_wp2_with fail
  go_quiet ((go_at_call 88; exact Calls.quiet_of_same ((q26.out _).mono fun _ _ h => ⟨h.1, h.2.symm⟩)))
  go_wp2_with (first | (go_at_call 32; (with_reducible refine (i106.out _).mono ?_); rintro e w' ⟨rfl, rfl⟩) | (go_at_call 32; (with_reducible refine (i83.out _).mono ?_); rintro e w' ⟨rfl, rfl⟩) | (go_at_call 32; (with_reducible refine (i84.out _).mono ?_); rintro e w' ⟨rfl, rfl⟩) | (go_at_call 32; (with_reducible refine (i105.out _).mono ?_); rintro e w' ⟨rfl, rfl⟩) | (go_at_call 32; (with_reducible refine (i68.out _).mono ?_); rintro e w' ⟨rfl, rfl⟩) | (go_at_call 32; (with_reducible refine (i97.out _).mono ?_); rintro e w' ⟨rfl, rfl⟩) | (go_at_call 88; (with_reducible refine (q21.out _).mono ?_); rintro e w' ⟨rfl, rfl⟩) | (go_at_call 88; (with_reducible refine (q16.out _).mono ?_); rintro e w' ⟨rfl, rfl⟩) | (go_at_call 88; (with_reducible refine (q11.out _).mono ?_); rintro e w' ⟨rfl, rfl⟩) | (go_at_call 88; (with_reducible refine (q6.out _).mono ?_); rintro e w' ⟨rfl, rfl⟩) | (go_at_call 88; (with_reducible refine (q0.out _).mono ?_); rintro e w' ⟨rfl, rfl⟩))
  all_goals
    go_ret
    refine ⟨?_, below_drewN (by go_grown) _⟩
    refine congrArg (fun c => Ending.returned (.bool c)) ?_
    rewrite [← HB.out]
    clear HB i106 i83 i84 i105 i68 i97 q26 q21 q16 q11 q6 q0
    (first | rfl | (rw [Bool.eq_iff_iff]; simp only [bne_iff_ne, bne_eq_false_iff_eq, ne_eq, beq_iff_eq, Bool.and_eq_true, decide_eq_true_eq, Bool.false_eq_true, true_iff, false_iff] at *; omega))
set_option maxHeartbeats 1000000 in
theorem mat_0_83_84_68 (x : Nat) (hx : x < 4294967296) (nm od kd : Value) (mi : Nat) (hmi : mi < 64) (h0 : x / 67108864 = 0) (b : Bool) (hb : (decide (x / 64 % 32 = 0) && decide (x % 64 = mi)) = b) (w : World) :
    Calls Tryz.prog 87 #[.int .u32 (x : Int), .agg #[nm, .int .i64 0, .int .i64 (mi : Int), .string (bsl [83, 84, 68]), od, kd]] w fun e w' => e = .returned (.bool b) ∧ Below w.heap.size w w' := by
  have i106 := Lib.hid (fun W => isOf_lit [83, 84, 68] (by decide) 106 106 (by decide) false (by rfl) W)
  have i83 := Lib.hid (fun W => isOf_lit [83, 84, 68] (by decide) 83 83 (by decide) true (by rfl) W)
  have i84 := Lib.hid (fun W => isOf_lit [83, 84, 68] (by decide) 84 84 (by decide) true (by rfl) W)
  have i105 := Lib.hid (fun W => isOf_lit [83, 84, 68] (by decide) 105 105 (by decide) false (by rfl) W)
  have i68 := Lib.hid (fun W => isOf_lit [83, 84, 68] (by decide) 68 68 (by decide) true (by rfl) W)
  have i97 := Lib.hid (fun W => isOf_lit [83, 84, 68] (by decide) 97 97 (by decide) false (by rfl) W)
  have q26 : Hid (∀ W, Calls Tryz.prog 88 #[.int .u32 (x : Int), .int .i64 26, .int .i64 6] W fun e w' => e = .returned (.int .i64 ((x : Int) / 67108864 % 64)) ∧ W = w') := fun W => part_lit (x : Int) 26 6 67108864 64 (by decide) (by decide) (by omega) (by omega) (by decide) (by decide) W
  have q21 : Hid (∀ W, Calls Tryz.prog 88 #[.int .u32 (x : Int), .int .i64 21, .int .i64 5] W fun e w' => e = .returned (.int .i64 ((x : Int) / 2097152 % 32)) ∧ W = w') := fun W => part_lit (x : Int) 21 5 2097152 32 (by decide) (by decide) (by omega) (by omega) (by decide) (by decide) W
  have q16 : Hid (∀ W, Calls Tryz.prog 88 #[.int .u32 (x : Int), .int .i64 16, .int .i64 5] W fun e w' => e = .returned (.int .i64 ((x : Int) / 65536 % 32)) ∧ W = w') := fun W => part_lit (x : Int) 16 5 65536 32 (by decide) (by decide) (by omega) (by omega) (by decide) (by decide) W
  have q11 : Hid (∀ W, Calls Tryz.prog 88 #[.int .u32 (x : Int), .int .i64 11, .int .i64 5] W fun e w' => e = .returned (.int .i64 ((x : Int) / 2048 % 32)) ∧ W = w') := fun W => part_lit (x : Int) 11 5 2048 32 (by decide) (by decide) (by omega) (by omega) (by decide) (by decide) W
  have q6 : Hid (∀ W, Calls Tryz.prog 88 #[.int .u32 (x : Int), .int .i64 6, .int .i64 5] W fun e w' => e = .returned (.int .i64 ((x : Int) / 64 % 32)) ∧ W = w') := fun W => part_lit (x : Int) 6 5 64 32 (by decide) (by decide) (by omega) (by omega) (by decide) (by decide) W
  have q0 : Hid (∀ W, Calls Tryz.prog 88 #[.int .u32 (x : Int), .int .i64 0, .int .i64 6] W fun e w' => e = .returned (.int .i64 ((x : Int) / 1 % 64)) ∧ W = w') := fun W => part_lit (x : Int) 0 6 1 64 (by decide) (by decide) (by omega) (by omega) (by decide) (by decide) W
  have hne : ((x : Int) / 67108864 % 64 != 0) = false := by rw [bne_eq_false_iff_eq]; omega
  have HB := Lib.hid hb
  clear h0 hb
  go_enter Tryz.func87, Tryz.ntmps87
  go_wp2_with fail
  go_quiet ((go_at_call 88; exact Calls.quiet_of_same ((q26.out _).mono fun _ _ h => ⟨h.1, h.2.symm⟩)))
  go_wp2_with (first | (go_at_call 32; (with_reducible refine (i106.out _).mono ?_); rintro e w' ⟨rfl, rfl⟩) | (go_at_call 32; (with_reducible refine (i83.out _).mono ?_); rintro e w' ⟨rfl, rfl⟩) | (go_at_call 32; (with_reducible refine (i84.out _).mono ?_); rintro e w' ⟨rfl, rfl⟩) | (go_at_call 32; (with_reducible refine (i105.out _).mono ?_); rintro e w' ⟨rfl, rfl⟩) | (go_at_call 32; (with_reducible refine (i68.out _).mono ?_); rintro e w' ⟨rfl, rfl⟩) | (go_at_call 32; (with_reducible refine (i97.out _).mono ?_); rintro e w' ⟨rfl, rfl⟩) | (go_at_call 88; (with_reducible refine (q21.out _).mono ?_); rintro e w' ⟨rfl, rfl⟩) | (go_at_call 88; (with_reducible refine (q16.out _).mono ?_); rintro e w' ⟨rfl, rfl⟩) | (go_at_call 88; (with_reducible refine (q11.out _).mono ?_); rintro e w' ⟨rfl, rfl⟩) | (go_at_call 88; (with_reducible refine (q6.out _).mono ?_); rintro e w' ⟨rfl, rfl⟩) | (go_at_call 88; (with_reducible refine (q0.out _).mono ?_); rintro e w' ⟨rfl, rfl⟩))
  all_goals
    go_ret
    refine ⟨?_, below_drewN (by go_grown) _⟩
    refine congrArg (fun c => Ending.returned (.bool c)) ?_
    rewrite [← HB.out]
    clear HB i106 i83 i84 i105 i68 i97 q26 q21 q16 q11 q6 q0
    (first | rfl | (rw [Bool.eq_iff_iff]; simp only [bne_iff_ne, bne_eq_false_iff_eq, ne_eq, beq_iff_eq, Bool.and_eq_true, decide_eq_true_eq, Bool.false_eq_true, true_iff, false_iff] at *; omega))
set_option maxHeartbeats 1000000 in
theorem mat_16_a (x : Nat) (hx : x < 4294967296) (nm od kd : Value) (mi : Nat) (hmi : mi < 64) (hmn : ((mi : Int) == 16) = false) (h0 : x / 67108864 = 16) (b : Bool) (hb : (decide (x / 2097152 % 32 = mi) && decide (x / 64 % 32 = 0) && decide (x % 64 = 0)) = b) (w : World) :
    Calls Tryz.prog 87 #[.int .u32 (x : Int), .agg #[nm, .int .i64 16, .int .i64 (mi : Int), .string (bsl [84, 68]), od, kd]] w fun e w' => e = .returned (.bool b) ∧ Below w.heap.size w w' := by
  have i106 := Lib.hid (fun W => isOf_lit [84, 68] (by decide) 106 106 (by decide) false (by rfl) W)
  have i83 := Lib.hid (fun W => isOf_lit [84, 68] (by decide) 83 83 (by decide) false (by rfl) W)
  have i84 := Lib.hid (fun W => isOf_lit [84, 68] (by decide) 84 84 (by decide) true (by rfl) W)
  have i105 := Lib.hid (fun W => isOf_lit [84, 68] (by decide) 105 105 (by decide) false (by rfl) W)
  have i68 := Lib.hid (fun W => isOf_lit [84, 68] (by decide) 68 68 (by decide) true (by rfl) W)
  have i97 := Lib.hid (fun W => isOf_lit [84, 68] (by decide) 97 97 (by decide) false (by rfl) W)
  have q26 : Hid (∀ W, Calls Tryz.prog 88 #[.int .u32 (x : Int), .int .i64 26, .int .i64 6] W fun e w' => e = .returned (.int .i64 ((x : Int) / 67108864 % 64)) ∧ W = w') := fun W => part_lit (x : Int) 26 6 67108864 64 (by decide) (by decide) (by omega) (by omega) (by decide) (by decide) W
  have q21 : Hid (∀ W, Calls Tryz.prog 88 #[.int .u32 (x : Int), .int .i64 21, .int .i64 5] W fun e w' => e = .returned (.int .i64 ((x : Int) / 2097152 % 32)) ∧ W = w') := fun W => part_lit (x : Int) 21 5 2097152 32 (by decide) (by decide) (by omega) (by omega) (by decide) (by decide) W
  have q16 : Hid (∀ W, Calls Tryz.prog 88 #[.int .u32 (x : Int), .int .i64 16, .int .i64 5] W fun e w' => e = .returned (.int .i64 ((x : Int) / 65536 % 32)) ∧ W = w') := fun W => part_lit (x : Int) 16 5 65536 32 (by decide) (by decide) (by omega) (by omega) (by decide) (by decide) W
  have q11 : Hid (∀ W, Calls Tryz.prog 88 #[.int .u32 (x : Int), .int .i64 11, .int .i64 5] W fun e w' => e = .returned (.int .i64 ((x : Int) / 2048 % 32)) ∧ W = w') := fun W => part_lit (x : Int) 11 5 2048 32 (by decide) (by decide) (by omega) (by omega) (by decide) (by decide) W
  have q6 : Hid (∀ W, Calls Tryz.prog 88 #[.int .u32 (x : Int), .int .i64 6, .int .i64 5] W fun e w' => e = .returned (.int .i64 ((x : Int) / 64 % 32)) ∧ W = w') := fun W => part_lit (x : Int) 6 5 64 32 (by decide) (by decide) (by omega) (by omega) (by decide) (by decide) W
  have q0 : Hid (∀ W, Calls Tryz.prog 88 #[.int .u32 (x : Int), .int .i64 0, .int .i64 6] W fun e w' => e = .returned (.int .i64 ((x : Int) / 1 % 64)) ∧ W = w') := fun W => part_lit (x : Int) 0 6 1 64 (by decide) (by decide) (by omega) (by omega) (by decide) (by decide) W
  have hne : ((x : Int) / 67108864 % 64 != 16) = false := by rw [bne_eq_false_iff_eq]; omega
  have HB := Lib.hid hb
  clear h0 hb
  go_enter Tryz.func87, Tryz.ntmps87
  go_wp2_with fail
  go_quiet ((go_at_call 88; exact Calls.quiet_of_same ((q26.out _).mono fun _ _ h => ⟨h.1, h.2.symm⟩)))
  go_wp2_with (first | (go_at_call 32; (with_reducible refine (i106.out _).mono ?_); rintro e w' ⟨rfl, rfl⟩) | (go_at_call 32; (with_reducible refine (i83.out _).mono ?_); rintro e w' ⟨rfl, rfl⟩) | (go_at_call 32; (with_reducible refine (i84.out _).mono ?_); rintro e w' ⟨rfl, rfl⟩) | (go_at_call 32; (with_reducible refine (i105.out _).mono ?_); rintro e w' ⟨rfl, rfl⟩) | (go_at_call 32; (with_reducible refine (i68.out _).mono ?_); rintro e w' ⟨rfl, rfl⟩) | (go_at_call 32; (with_reducible refine (i97.out _).mono ?_); rintro e w' ⟨rfl, rfl⟩) | (go_at_call 88; (with_reducible refine (q21.out _).mono ?_); rintro e w' ⟨rfl, rfl⟩) | (go_at_call 88; (with_reducible refine (q16.out _).mono ?_); rintro e w' ⟨rfl, rfl⟩) | (go_at_call 88; (with_reducible refine (q11.out _).mono ?_); rintro e w' ⟨rfl, rfl⟩) | (go_at_call 88; (with_reducible refine (q6.out _).mono ?_); rintro e w' ⟨rfl, rfl⟩) | (go_at_call 88; (with_reducible refine (q0.out _).mono ?_); rintro e w' ⟨rfl, rfl⟩))
  all_goals
    go_ret
    refine ⟨?_, below_drewN (by go_grown) _⟩
    refine congrArg (fun c => Ending.returned (.bool c)) ?_
    rewrite [← HB.out]
    clear HB i106 i83 i84 i105 i68 i97 q26 q21 q16 q11 q6 q0
    (first | rfl | (rw [Bool.eq_iff_iff]; simp only [bne_iff_ne, bne_eq_false_iff_eq, ne_eq, beq_iff_eq, Bool.and_eq_true, decide_eq_true_eq, Bool.false_eq_true, true_iff, false_iff] at *; omega))
set_option maxHeartbeats 1000000 in
theorem mat_16_b (x : Nat) (hx : x < 4294967296) (nm od kd : Value) (h0 : x / 67108864 = 16) (b : Bool) (hb : (decide (x / 2097152 % 32 = 16) && decide (x / 65536 % 32 = 0) && decide (x / 2048 % 32 = 0) && decide (x / 64 % 32 = 0) && decide (x % 64 = 24)) = b) (w : World) :
    Calls Tryz.prog 87 #[.int .u32 (x : Int), .agg #[nm, .int .i64 16, .int .i64 16, .string (bsl []), od, kd]] w fun e w' => e = .returned (.bool b) ∧ Below w.heap.size w w' := by
  have i106 := Lib.hid (fun W => isOf_lit [] (by decide) 106 106 (by decide) false (by rfl) W)
  have i83 := Lib.hid (fun W => isOf_lit [] (by decide) 83 83 (by decide) false (by rfl) W)
  have i84 := Lib.hid (fun W => isOf_lit [] (by decide) 84 84 (by decide) false (by rfl) W)
  have i105 := Lib.hid (fun W => isOf_lit [] (by decide) 105 105 (by decide) false (by rfl) W)
  have i68 := Lib.hid (fun W => isOf_lit [] (by decide) 68 68 (by decide) false (by rfl) W)
  have i97 := Lib.hid (fun W => isOf_lit [] (by decide) 97 97 (by decide) false (by rfl) W)
  have q26 : Hid (∀ W, Calls Tryz.prog 88 #[.int .u32 (x : Int), .int .i64 26, .int .i64 6] W fun e w' => e = .returned (.int .i64 ((x : Int) / 67108864 % 64)) ∧ W = w') := fun W => part_lit (x : Int) 26 6 67108864 64 (by decide) (by decide) (by omega) (by omega) (by decide) (by decide) W
  have q21 : Hid (∀ W, Calls Tryz.prog 88 #[.int .u32 (x : Int), .int .i64 21, .int .i64 5] W fun e w' => e = .returned (.int .i64 ((x : Int) / 2097152 % 32)) ∧ W = w') := fun W => part_lit (x : Int) 21 5 2097152 32 (by decide) (by decide) (by omega) (by omega) (by decide) (by decide) W
  have q16 : Hid (∀ W, Calls Tryz.prog 88 #[.int .u32 (x : Int), .int .i64 16, .int .i64 5] W fun e w' => e = .returned (.int .i64 ((x : Int) / 65536 % 32)) ∧ W = w') := fun W => part_lit (x : Int) 16 5 65536 32 (by decide) (by decide) (by omega) (by omega) (by decide) (by decide) W
  have q11 : Hid (∀ W, Calls Tryz.prog 88 #[.int .u32 (x : Int), .int .i64 11, .int .i64 5] W fun e w' => e = .returned (.int .i64 ((x : Int) / 2048 % 32)) ∧ W = w') := fun W => part_lit (x : Int) 11 5 2048 32 (by decide) (by decide) (by omega) (by omega) (by decide) (by decide) W
  have q6 : Hid (∀ W, Calls Tryz.prog 88 #[.int .u32 (x : Int), .int .i64 6, .int .i64 5] W fun e w' => e = .returned (.int .i64 ((x : Int) / 64 % 32)) ∧ W = w') := fun W => part_lit (x : Int) 6 5 64 32 (by decide) (by decide) (by omega) (by omega) (by decide) (by decide) W
  have q0 : Hid (∀ W, Calls Tryz.prog 88 #[.int .u32 (x : Int), .int .i64 0, .int .i64 6] W fun e w' => e = .returned (.int .i64 ((x : Int) / 1 % 64)) ∧ W = w') := fun W => part_lit (x : Int) 0 6 1 64 (by decide) (by decide) (by omega) (by omega) (by decide) (by decide) W
  have hne : ((x : Int) / 67108864 % 64 != 16) = false := by rw [bne_eq_false_iff_eq]; omega
  have HB := Lib.hid hb
  clear h0 hb
  go_enter Tryz.func87, Tryz.ntmps87
  go_wp2_with fail
  go_quiet ((go_at_call 88; exact Calls.quiet_of_same ((q26.out _).mono fun _ _ h => ⟨h.1, h.2.symm⟩)))
  go_wp2_with (first | (go_at_call 32; (with_reducible refine (i106.out _).mono ?_); rintro e w' ⟨rfl, rfl⟩) | (go_at_call 32; (with_reducible refine (i83.out _).mono ?_); rintro e w' ⟨rfl, rfl⟩) | (go_at_call 32; (with_reducible refine (i84.out _).mono ?_); rintro e w' ⟨rfl, rfl⟩) | (go_at_call 32; (with_reducible refine (i105.out _).mono ?_); rintro e w' ⟨rfl, rfl⟩) | (go_at_call 32; (with_reducible refine (i68.out _).mono ?_); rintro e w' ⟨rfl, rfl⟩) | (go_at_call 32; (with_reducible refine (i97.out _).mono ?_); rintro e w' ⟨rfl, rfl⟩) | (go_at_call 88; (with_reducible refine (q21.out _).mono ?_); rintro e w' ⟨rfl, rfl⟩) | (go_at_call 88; (with_reducible refine (q16.out _).mono ?_); rintro e w' ⟨rfl, rfl⟩) | (go_at_call 88; (with_reducible refine (q11.out _).mono ?_); rintro e w' ⟨rfl, rfl⟩) | (go_at_call 88; (with_reducible refine (q6.out _).mono ?_); rintro e w' ⟨rfl, rfl⟩) | (go_at_call 88; (with_reducible refine (q0.out _).mono ?_); rintro e w' ⟨rfl, rfl⟩))
  all_goals
    go_ret
    refine ⟨?_, below_drewN (by go_grown) _⟩
    refine congrArg (fun c => Ending.returned (.bool c)) ?_
    rewrite [← HB.out]
    clear HB i106 i83 i84 i105 i68 i97 q26 q21 q16 q11 q6 q0
    (first | rfl | (rw [Bool.eq_iff_iff]; simp only [bne_iff_ne, bne_eq_false_iff_eq, ne_eq, beq_iff_eq, Bool.and_eq_true, decide_eq_true_eq, Bool.false_eq_true, true_iff, false_iff] at *; omega))
set_option maxHeartbeats 1000000 in
theorem mat_m_106 (x : Nat) (hx : x < 4294967296) (nm od kd : Value) (ma mi : Nat) (hma : ma < 64) (hz : ((ma : Int) == 0) = false) (hn : ((ma : Int) == 16) = false) (h0 : x / 67108864 = ma) (b : Bool) (hb : (true) = b) (w : World) :
    Calls Tryz.prog 87 #[.int .u32 (x : Int), .agg #[nm, .int .i64 (ma : Int), .int .i64 (mi : Int), .string (bsl [106]), od, kd]] w fun e w' => e = .returned (.bool b) ∧ Below w.heap.size w w' := by
  have i106 := Lib.hid (fun W => isOf_lit [106] (by decide) 106 106 (by decide) true (by rfl) W)
  have i83 := Lib.hid (fun W => isOf_lit [106] (by decide) 83 83 (by decide) false (by rfl) W)
  have i84 := Lib.hid (fun W => isOf_lit [106] (by decide) 84 84 (by decide) false (by rfl) W)
  have i105 := Lib.hid (fun W => isOf_lit [106] (by decide) 105 105 (by decide) false (by rfl) W)
  have i68 := Lib.hid (fun W => isOf_lit [106] (by decide) 68 68 (by decide) false (by rfl) W)
  have i97 := Lib.hid (fun W => isOf_lit [106] (by decide) 97 97 (by decide) false (by rfl) W)
  have q26 : Hid (∀ W, Calls Tryz.prog 88 #[.int .u32 (x : Int), .int .i64 26, .int .i64 6] W fun e w' => e = .returned (.int .i64 ((x : Int) / 67108864 % 64)) ∧ W = w') := fun W => part_lit (x : Int) 26 6 67108864 64 (by decide) (by decide) (by omega) (by omega) (by decide) (by decide) W
  have q21 : Hid (∀ W, Calls Tryz.prog 88 #[.int .u32 (x : Int), .int .i64 21, .int .i64 5] W fun e w' => e = .returned (.int .i64 ((x : Int) / 2097152 % 32)) ∧ W = w') := fun W => part_lit (x : Int) 21 5 2097152 32 (by decide) (by decide) (by omega) (by omega) (by decide) (by decide) W
  have q16 : Hid (∀ W, Calls Tryz.prog 88 #[.int .u32 (x : Int), .int .i64 16, .int .i64 5] W fun e w' => e = .returned (.int .i64 ((x : Int) / 65536 % 32)) ∧ W = w') := fun W => part_lit (x : Int) 16 5 65536 32 (by decide) (by decide) (by omega) (by omega) (by decide) (by decide) W
  have q11 : Hid (∀ W, Calls Tryz.prog 88 #[.int .u32 (x : Int), .int .i64 11, .int .i64 5] W fun e w' => e = .returned (.int .i64 ((x : Int) / 2048 % 32)) ∧ W = w') := fun W => part_lit (x : Int) 11 5 2048 32 (by decide) (by decide) (by omega) (by omega) (by decide) (by decide) W
  have q6 : Hid (∀ W, Calls Tryz.prog 88 #[.int .u32 (x : Int), .int .i64 6, .int .i64 5] W fun e w' => e = .returned (.int .i64 ((x : Int) / 64 % 32)) ∧ W = w') := fun W => part_lit (x : Int) 6 5 64 32 (by decide) (by decide) (by omega) (by omega) (by decide) (by decide) W
  have q0 : Hid (∀ W, Calls Tryz.prog 88 #[.int .u32 (x : Int), .int .i64 0, .int .i64 6] W fun e w' => e = .returned (.int .i64 ((x : Int) / 1 % 64)) ∧ W = w') := fun W => part_lit (x : Int) 0 6 1 64 (by decide) (by decide) (by omega) (by omega) (by decide) (by decide) W
  have hne : ((x : Int) / 67108864 % 64 != (ma : Int)) = false := by rw [bne_eq_false_iff_eq]; omega
  have HB := Lib.hid hb
  clear h0 hb
  go_enter Tryz.func87, Tryz.ntmps87
  go_wp2_with fail
  go_quiet ((go_at_call 88; exact Calls.quiet_of_same ((q26.out _).mono fun _ _ h => ⟨h.1, h.2.symm⟩)))
  go_wp2_with (first | (go_at_call 32; (with_reducible refine (i106.out _).mono ?_); rintro e w' ⟨rfl, rfl⟩) | (go_at_call 32; (with_reducible refine (i83.out _).mono ?_); rintro e w' ⟨rfl, rfl⟩) | (go_at_call 32; (with_reducible refine (i84.out _).mono ?_); rintro e w' ⟨rfl, rfl⟩) | (go_at_call 32; (with_reducible refine (i105.out _).mono ?_); rintro e w' ⟨rfl, rfl⟩) | (go_at_call 32; (with_reducible refine (i68.out _).mono ?_); rintro e w' ⟨rfl, rfl⟩) | (go_at_call 32; (with_reducible refine (i97.out _).mono ?_); rintro e w' ⟨rfl, rfl⟩) | (go_at_call 88; (with_reducible refine (q21.out _).mono ?_); rintro e w' ⟨rfl, rfl⟩) | (go_at_call 88; (with_reducible refine (q16.out _).mono ?_); rintro e w' ⟨rfl, rfl⟩) | (go_at_call 88; (with_reducible refine (q11.out _).mono ?_); rintro e w' ⟨rfl, rfl⟩) | (go_at_call 88; (with_reducible refine (q6.out _).mono ?_); rintro e w' ⟨rfl, rfl⟩) | (go_at_call 88; (with_reducible refine (q0.out _).mono ?_); rintro e w' ⟨rfl, rfl⟩))
  all_goals
    go_ret
    refine ⟨?_, below_drewN (by go_grown) _⟩
    refine congrArg (fun c => Ending.returned (.bool c)) ?_
    rewrite [← HB.out]
    clear HB i106 i83 i84 i105 i68 i97 q26 q21 q16 q11 q6 q0
    (first | rfl | (rw [Bool.eq_iff_iff]; simp only [bne_iff_ne, bne_eq_false_iff_eq, ne_eq, beq_iff_eq, Bool.and_eq_true, decide_eq_true_eq, Bool.false_eq_true, true_iff, false_iff] at *; omega))
set_option maxHeartbeats 1000000 in
theorem mat_m_83_84_105 (x : Nat) (hx : x < 4294967296) (nm od kd : Value) (ma mi : Nat) (hma : ma < 64) (hz : ((ma : Int) == 0) = false) (hn : ((ma : Int) == 16) = false) (h0 : x / 67108864 = ma) (b : Bool) (hb : (true) = b) (w : World) :
    Calls Tryz.prog 87 #[.int .u32 (x : Int), .agg #[nm, .int .i64 (ma : Int), .int .i64 (mi : Int), .string (bsl [83, 84, 105]), od, kd]] w fun e w' => e = .returned (.bool b) ∧ Below w.heap.size w w' := by
  have i106 := Lib.hid (fun W => isOf_lit [83, 84, 105] (by decide) 106 106 (by decide) false (by rfl) W)
  have i83 := Lib.hid (fun W => isOf_lit [83, 84, 105] (by decide) 83 83 (by decide) true (by rfl) W)
  have i84 := Lib.hid (fun W => isOf_lit [83, 84, 105] (by decide) 84 84 (by decide) true (by rfl) W)
  have i105 := Lib.hid (fun W => isOf_lit [83, 84, 105] (by decide) 105 105 (by decide) true (by rfl) W)
  have i68 := Lib.hid (fun W => isOf_lit [83, 84, 105] (by decide) 68 68 (by decide) false (by rfl) W)
  have i97 := Lib.hid (fun W => isOf_lit [83, 84, 105] (by decide) 97 97 (by decide) false (by rfl) W)
  have q26 : Hid (∀ W, Calls Tryz.prog 88 #[.int .u32 (x : Int), .int .i64 26, .int .i64 6] W fun e w' => e = .returned (.int .i64 ((x : Int) / 67108864 % 64)) ∧ W = w') := fun W => part_lit (x : Int) 26 6 67108864 64 (by decide) (by decide) (by omega) (by omega) (by decide) (by decide) W
  have q21 : Hid (∀ W, Calls Tryz.prog 88 #[.int .u32 (x : Int), .int .i64 21, .int .i64 5] W fun e w' => e = .returned (.int .i64 ((x : Int) / 2097152 % 32)) ∧ W = w') := fun W => part_lit (x : Int) 21 5 2097152 32 (by decide) (by decide) (by omega) (by omega) (by decide) (by decide) W
  have q16 : Hid (∀ W, Calls Tryz.prog 88 #[.int .u32 (x : Int), .int .i64 16, .int .i64 5] W fun e w' => e = .returned (.int .i64 ((x : Int) / 65536 % 32)) ∧ W = w') := fun W => part_lit (x : Int) 16 5 65536 32 (by decide) (by decide) (by omega) (by omega) (by decide) (by decide) W
  have q11 : Hid (∀ W, Calls Tryz.prog 88 #[.int .u32 (x : Int), .int .i64 11, .int .i64 5] W fun e w' => e = .returned (.int .i64 ((x : Int) / 2048 % 32)) ∧ W = w') := fun W => part_lit (x : Int) 11 5 2048 32 (by decide) (by decide) (by omega) (by omega) (by decide) (by decide) W
  have q6 : Hid (∀ W, Calls Tryz.prog 88 #[.int .u32 (x : Int), .int .i64 6, .int .i64 5] W fun e w' => e = .returned (.int .i64 ((x : Int) / 64 % 32)) ∧ W = w') := fun W => part_lit (x : Int) 6 5 64 32 (by decide) (by decide) (by omega) (by omega) (by decide) (by decide) W
  have q0 : Hid (∀ W, Calls Tryz.prog 88 #[.int .u32 (x : Int), .int .i64 0, .int .i64 6] W fun e w' => e = .returned (.int .i64 ((x : Int) / 1 % 64)) ∧ W = w') := fun W => part_lit (x : Int) 0 6 1 64 (by decide) (by decide) (by omega) (by omega) (by decide) (by decide) W
  have hne : ((x : Int) / 67108864 % 64 != (ma : Int)) = false := by rw [bne_eq_false_iff_eq]; omega
  have HB := Lib.hid hb
  clear h0 hb
  go_enter Tryz.func87, Tryz.ntmps87
  go_wp2_with fail
  go_quiet ((go_at_call 88; exact Calls.quiet_of_same ((q26.out _).mono fun _ _ h => ⟨h.1, h.2.symm⟩)))
  go_wp2_with (first | (go_at_call 32; (with_reducible refine (i106.out _).mono ?_); rintro e w' ⟨rfl, rfl⟩) | (go_at_call 32; (with_reducible refine (i83.out _).mono ?_); rintro e w' ⟨rfl, rfl⟩) | (go_at_call 32; (with_reducible refine (i84.out _).mono ?_); rintro e w' ⟨rfl, rfl⟩) | (go_at_call 32; (with_reducible refine (i105.out _).mono ?_); rintro e w' ⟨rfl, rfl⟩) | (go_at_call 32; (with_reducible refine (i68.out _).mono ?_); rintro e w' ⟨rfl, rfl⟩) | (go_at_call 32; (with_reducible refine (i97.out _).mono ?_); rintro e w' ⟨rfl, rfl⟩) | (go_at_call 88; (with_reducible refine (q21.out _).mono ?_); rintro e w' ⟨rfl, rfl⟩) | (go_at_call 88; (with_reducible refine (q16.out _).mono ?_); rintro e w' ⟨rfl, rfl⟩) | (go_at_call 88; (with_reducible refine (q11.out _).mono ?_); rintro e w' ⟨rfl, rfl⟩) | (go_at_call 88; (with_reducible refine (q6.out _).mono ?_); rintro e w' ⟨rfl, rfl⟩) | (go_at_call 88; (with_reducible refine (q0.out _).mono ?_); rintro e w' ⟨rfl, rfl⟩))
  all_goals
    go_ret
    refine ⟨?_, below_drewN (by go_grown) _⟩
    refine congrArg (fun c => Ending.returned (.bool c)) ?_
    rewrite [← HB.out]
    clear HB i106 i83 i84 i105 i68 i97 q26 q21 q16 q11 q6 q0
    (first | rfl | (rw [Bool.eq_iff_iff]; simp only [bne_iff_ne, bne_eq_false_iff_eq, ne_eq, beq_iff_eq, Bool.and_eq_true, decide_eq_true_eq, Bool.false_eq_true, true_iff, false_iff] at *; omega))
set_option maxHeartbeats 1000000 in
theorem mat_m_83_105 (x : Nat) (hx : x < 4294967296) (nm od kd : Value) (ma mi : Nat) (hma : ma < 64) (hz : ((ma : Int) == 0) = false) (hn : ((ma : Int) == 16) = false) (h0 : x / 67108864 = ma) (b : Bool) (hb : (decide (x / 65536 % 32 = 0)) = b) (w : World) :
    Calls Tryz.prog 87 #[.int .u32 (x : Int), .agg #[nm, .int .i64 (ma : Int), .int .i64 (mi : Int), .string (bsl [83, 105]), od, kd]] w fun e w' => e = .returned (.bool b) ∧ Below w.heap.size w w' := by
  have i106 := Lib.hid (fun W => isOf_lit [83, 105] (by decide) 106 106 (by decide) false (by rfl) W)
  have i83 := Lib.hid (fun W => isOf_lit [83, 105] (by decide) 83 83 (by decide) true (by rfl) W)
  have i84 := Lib.hid (fun W => isOf_lit [83, 105] (by decide) 84 84 (by decide) false (by rfl) W)
  have i105 := Lib.hid (fun W => isOf_lit [83, 105] (by decide) 105 105 (by decide) true (by rfl) W)
  have i68 := Lib.hid (fun W => isOf_lit [83, 105] (by decide) 68 68 (by decide) false (by rfl) W)
  have i97 := Lib.hid (fun W => isOf_lit [83, 105] (by decide) 97 97 (by decide) false (by rfl) W)
  have q26 : Hid (∀ W, Calls Tryz.prog 88 #[.int .u32 (x : Int), .int .i64 26, .int .i64 6] W fun e w' => e = .returned (.int .i64 ((x : Int) / 67108864 % 64)) ∧ W = w') := fun W => part_lit (x : Int) 26 6 67108864 64 (by decide) (by decide) (by omega) (by omega) (by decide) (by decide) W
  have q21 : Hid (∀ W, Calls Tryz.prog 88 #[.int .u32 (x : Int), .int .i64 21, .int .i64 5] W fun e w' => e = .returned (.int .i64 ((x : Int) / 2097152 % 32)) ∧ W = w') := fun W => part_lit (x : Int) 21 5 2097152 32 (by decide) (by decide) (by omega) (by omega) (by decide) (by decide) W
  have q16 : Hid (∀ W, Calls Tryz.prog 88 #[.int .u32 (x : Int), .int .i64 16, .int .i64 5] W fun e w' => e = .returned (.int .i64 ((x : Int) / 65536 % 32)) ∧ W = w') := fun W => part_lit (x : Int) 16 5 65536 32 (by decide) (by decide) (by omega) (by omega) (by decide) (by decide) W
  have q11 : Hid (∀ W, Calls Tryz.prog 88 #[.int .u32 (x : Int), .int .i64 11, .int .i64 5] W fun e w' => e = .returned (.int .i64 ((x : Int) / 2048 % 32)) ∧ W = w') := fun W => part_lit (x : Int) 11 5 2048 32 (by decide) (by decide) (by omega) (by omega) (by decide) (by decide) W
  have q6 : Hid (∀ W, Calls Tryz.prog 88 #[.int .u32 (x : Int), .int .i64 6, .int .i64 5] W fun e w' => e = .returned (.int .i64 ((x : Int) / 64 % 32)) ∧ W = w') := fun W => part_lit (x : Int) 6 5 64 32 (by decide) (by decide) (by omega) (by omega) (by decide) (by decide) W
  have q0 : Hid (∀ W, Calls Tryz.prog 88 #[.int .u32 (x : Int), .int .i64 0, .int .i64 6] W fun e w' => e = .returned (.int .i64 ((x : Int) / 1 % 64)) ∧ W = w') := fun W => part_lit (x : Int) 0 6 1 64 (by decide) (by decide) (by omega) (by omega) (by decide) (by decide) W
  have hne : ((x : Int) / 67108864 % 64 != (ma : Int)) = false := by rw [bne_eq_false_iff_eq]; omega
  have HB := Lib.hid hb
  clear h0 hb
  go_enter Tryz.func87, Tryz.ntmps87
  go_wp2_with fail
  go_quiet ((go_at_call 88; exact Calls.quiet_of_same ((q26.out _).mono fun _ _ h => ⟨h.1, h.2.symm⟩)))
  go_wp2_with (first | (go_at_call 32; (with_reducible refine (i106.out _).mono ?_); rintro e w' ⟨rfl, rfl⟩) | (go_at_call 32; (with_reducible refine (i83.out _).mono ?_); rintro e w' ⟨rfl, rfl⟩) | (go_at_call 32; (with_reducible refine (i84.out _).mono ?_); rintro e w' ⟨rfl, rfl⟩) | (go_at_call 32; (with_reducible refine (i105.out _).mono ?_); rintro e w' ⟨rfl, rfl⟩) | (go_at_call 32; (with_reducible refine (i68.out _).mono ?_); rintro e w' ⟨rfl, rfl⟩) | (go_at_call 32; (with_reducible refine (i97.out _).mono ?_); rintro e w' ⟨rfl, rfl⟩) | (go_at_call 88; (with_reducible refine (q21.out _).mono ?_); rintro e w' ⟨rfl, rfl⟩) | (go_at_call 88; (with_reducible refine (q16.out _).mono ?_); rintro e w' ⟨rfl, rfl⟩) | (go_at_call 88; (with_reducible refine (q11.out _).mono ?_); rintro e w' ⟨rfl, rfl⟩) | (go_at_call 88; (with_reducible refine (q6.out _).mono ?_); rintro e w' ⟨rfl, rfl⟩) | (go_at_call 88; (with_reducible refine (q0.out _).mono ?_); rintro e w' ⟨rfl, rfl⟩))
  all_goals
    go_ret
    refine ⟨?_, below_drewN (by go_grown) _⟩
    refine congrArg (fun c => Ending.returned (.bool c)) ?_
    rewrite [← HB.out]
    clear HB i106 i83 i84 i105 i68 i97 q26 q21 q16 q11 q6 q0
    (first | rfl | (rw [Bool.eq_iff_iff]; simp only [bne_iff_ne, bne_eq_false_iff_eq, ne_eq, beq_iff_eq, Bool.and_eq_true, decide_eq_true_eq, Bool.false_eq_true, true_iff, false_iff] at *; omega))
set_option maxHeartbeats 1000000 in
theorem mat_m_84_105 (x : Nat) (hx : x < 4294967296) (nm od kd : Value) (ma mi : Nat) (hma : ma < 64) (hz : ((ma : Int) == 0) = false) (hn : ((ma : Int) == 16) = false) (h0 : x / 67108864 = ma) (b : Bool) (hb : (decide (x / 2097152 % 32 = 0)) = b) (w : World) :
    Calls Tryz.prog 87 #[.int .u32 (x : Int), .agg #[nm, .int .i64 (ma : Int), .int .i64 (mi : Int), .string (bsl [84, 105]), od, kd]] w fun e w' => e = .returned (.bool b) ∧ Below w.heap.size w w' := by
  have i106 := Lib.hid (fun W => isOf_lit [84, 105] (by decide) 106 106 (by decide) false (by rfl) W)
  have i83 := Lib.hid (fun W => isOf_lit [84, 105] (by decide) 83 83 (by decide) false (by rfl) W)
  have i84 := Lib.hid (fun W => isOf_lit [84, 105] (by decide) 84 84 (by decide) true (by rfl) W)
  have i105 := Lib.hid (fun W => isOf_lit [84, 105] (by decide) 105 105 (by decide) true (by rfl) W)
  have i68 := Lib.hid (fun W => isOf_lit [84, 105] (by decide) 68 68 (by decide) false (by rfl) W)
  have i97 := Lib.hid (fun W => isOf_lit [84, 105] (by decide) 97 97 (by decide) false (by rfl) W)
  have q26 : Hid (∀ W, Calls Tryz.prog 88 #[.int .u32 (x : Int), .int .i64 26, .int .i64 6] W fun e w' => e = .returned (.int .i64 ((x : Int) / 67108864 % 64)) ∧ W = w') := fun W => part_lit (x : Int) 26 6 67108864 64 (by decide) (by decide) (by omega) (by omega) (by decide) (by decide) W
  have q21 : Hid (∀ W, Calls Tryz.prog 88 #[.int .u32 (x : Int), .int .i64 21, .int .i64 5] W fun e w' => e = .returned (.int .i64 ((x : Int) / 2097152 % 32)) ∧ W = w') := fun W => part_lit (x : Int) 21 5 2097152 32 (by decide) (by decide) (by omega) (by omega) (by decide) (by decide) W
  have q16 : Hid (∀ W, Calls Tryz.prog 88 #[.int .u32 (x : Int), .int .i64 16, .int .i64 5] W fun e w' => e = .returned (.int .i64 ((x : Int) / 65536 % 32)) ∧ W = w') := fun W => part_lit (x : Int) 16 5 65536 32 (by decide) (by decide) (by omega) (by omega) (by decide) (by decide) W
  have q11 : Hid (∀ W, Calls Tryz.prog 88 #[.int .u32 (x : Int), .int .i64 11, .int .i64 5] W fun e w' => e = .returned (.int .i64 ((x : Int) / 2048 % 32)) ∧ W = w') := fun W => part_lit (x : Int) 11 5 2048 32 (by decide) (by decide) (by omega) (by omega) (by decide) (by decide) W
  have q6 : Hid (∀ W, Calls Tryz.prog 88 #[.int .u32 (x : Int), .int .i64 6, .int .i64 5] W fun e w' => e = .returned (.int .i64 ((x : Int) / 64 % 32)) ∧ W = w') := fun W => part_lit (x : Int) 6 5 64 32 (by decide) (by decide) (by omega) (by omega) (by decide) (by decide) W
  have q0 : Hid (∀ W, Calls Tryz.prog 88 #[.int .u32 (x : Int), .int .i64 0, .int .i64 6] W fun e w' => e = .returned (.int .i64 ((x : Int) / 1 % 64)) ∧ W = w') := fun W => part_lit (x : Int) 0 6 1 64 (by decide) (by decide) (by omega) (by omega) (by decide) (by decide) W
  have hne : ((x : Int) / 67108864 % 64 != (ma : Int)) = false := by rw [bne_eq_false_iff_eq]; omega
  have HB := Lib.hid hb
  clear h0 hb
  go_enter Tryz.func87, Tryz.ntmps87
  go_wp2_with fail
  go_quiet ((go_at_call 88; exact Calls.quiet_of_same ((q26.out _).mono fun _ _ h => ⟨h.1, h.2.symm⟩)))
  go_wp2_with (first | (go_at_call 32; (with_reducible refine (i106.out _).mono ?_); rintro e w' ⟨rfl, rfl⟩) | (go_at_call 32; (with_reducible refine (i83.out _).mono ?_); rintro e w' ⟨rfl, rfl⟩) | (go_at_call 32; (with_reducible refine (i84.out _).mono ?_); rintro e w' ⟨rfl, rfl⟩) | (go_at_call 32; (with_reducible refine (i105.out _).mono ?_); rintro e w' ⟨rfl, rfl⟩) | (go_at_call 32; (with_reducible refine (i68.out _).mono ?_); rintro e w' ⟨rfl, rfl⟩) | (go_at_call 32; (with_reducible refine (i97.out _).mono ?_); rintro e w' ⟨rfl, rfl⟩) | (go_at_call 88; (with_reducible refine (q21.out _).mono ?_); rintro e w' ⟨rfl, rfl⟩) | (go_at_call 88; (with_reducible refine (q16.out _).mono ?_); rintro e w' ⟨rfl, rfl⟩) | (go_at_call 88; (with_reducible refine (q11.out _).mono ?_); rintro e w' ⟨rfl, rfl⟩) | (go_at_call 88; (with_reducible refine (q6.out _).mono ?_); rintro e w' ⟨rfl, rfl⟩) | (go_at_call 88; (with_reducible refine (q0.out _).mono ?_); rintro e w' ⟨rfl, rfl⟩))
  all_goals
    go_ret
    refine ⟨?_, below_drewN (by go_grown) _⟩
    refine congrArg (fun c => Ending.returned (.bool c)) ?_
    rewrite [← HB.out]
    clear HB i106 i83 i84 i105 i68 i97 q26 q21 q16 q11 q6 q0
    (first | rfl | (rw [Bool.eq_iff_iff]; simp only [bne_iff_ne, bne_eq_false_iff_eq, ne_eq, beq_iff_eq, Bool.and_eq_true, decide_eq_true_eq, Bool.false_eq_true, true_iff, false_iff] at *; omega))
theorem matches_any (x k : Nat) (hx : x < 4294967296) (hk : k < 54) (w : World) :
    Calls Tryz.prog 87 #[.int .u32 (x : Int), rowV k] w fun e w' => e = .returned (.bool (matB x k)) ∧ Below w.heap.size w w' := by
  by_cases hm : x / 67108864 = majorN k
  · obtain ⟨n1, n2, n3⟩ := nums_small k
    rcases tab_6 k hk with ⟨h0, hl⟩ | ⟨h0, hl⟩ | ⟨h0, h1, hl⟩
    · rw [h0] at hm
      unfold rowV
      rw [h0]
      rcases hl with e | e | e | e | e | e | e
      · rw [e]; exact mat_0_ x hx _ _ _ (minorN k) (by omega) hm _ (by simp [matB, e, h0, hm, Bool.and_assoc]) w
      · rw [e]; exact mat_0_83 x hx _ _ _ (minorN k) (by omega) hm _ (by simp [matB, e, h0, hm, Bool.and_assoc]) w
      · rw [e]; exact mat_0_68 x hx _ _ _ (minorN k) (by omega) hm _ (by simp [matB, e, h0, hm, Bool.and_assoc]) w
      · rw [e]; exact mat_0_83_68 x hx _ _ _ (minorN k) (by omega) hm _ (by simp [matB, e, h0, hm, Bool.and_assoc]) w
      · rw [e]; exact mat_0_83_84 x hx _ _ _ (minorN k) (by omega) hm _ (by simp [matB, e, h0, hm, Bool.and_assoc]) w
      · rw [e]; exact mat_0_84_68_97 x hx _ _ _ (minorN k) (by omega) hm _ (by simp [matB, e, h0, hm, Bool.and_assoc]) w
      · rw [e]; exact mat_0_83_84_68 x hx _ _ _ (minorN k) (by omega) hm _ (by simp [matB, e, h0, hm, Bool.and_assoc]) w
    · rw [h0] at hm
      unfold rowV
      rw [h0]
      rcases hl with ⟨e, hn⟩ | ⟨e, hn⟩
      · rw [e]; exact mat_16_a x hx _ _ _ (minorN k) (by omega) (beq_eq_false_iff_ne.2 (by omega)) hm _ (by simp [matB, e, h0, hm, hn, Bool.and_assoc]) w
      · rw [e, hn]; exact mat_16_b x hx _ _ _ hm _ (by simp [matB, e, h0, hm, hn, Bool.and_assoc]) w
    · unfold rowV
      have z0 : ((majorN k : Int) == 0) = false := beq_eq_false_iff_ne.2 (by omega)
      have z1 : ((majorN k : Int) == 16) = false := beq_eq_false_iff_ne.2 (by omega)
      rcases hl with e | e | e | e
      · rw [e]; exact mat_m_106 x hx _ _ _ (majorN k) (minorN k) (by omega) z0 z1 hm _ (by simp [matB, e, h0, h1, hm, Bool.and_assoc]) w
      · rw [e]; exact mat_m_83_84_105 x hx _ _ _ (majorN k) (minorN k) (by omega) z0 z1 hm _ (by simp [matB, e, h0, h1, hm, Bool.and_assoc]) w
      · rw [e]; exact mat_m_83_105 x hx _ _ _ (majorN k) (minorN k) (by omega) z0 z1 hm _ (by simp [matB, e, h0, h1, hm, Bool.and_assoc]) w
      · rw [e]; exact mat_m_84_105 x hx _ _ _ (majorN k) (minorN k) (by omega) z0 z1 hm _ (by simp [matB, e, h0, h1, hm, Bool.and_assoc]) w
  · have hf : matB x k = false := by
      unfold matB
      simp [hm]
    rw [hf]
    exact matches_wrong x k hx hm w
end Go.Proofs.YtnppegldebocmaaGreatDoor
