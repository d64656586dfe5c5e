/- The walk of ir's sums, op by op. The walk of ir's load. The walk of ir's branch, where its parts are do's alone. The walk of ir's leave at a branch that asks. The walks of ir's leave at a jump and of ir's branch where it links. The walk of ir's leave at j and jal. The walks of ir's ins, branch, leave, joined. The walks of region.Ends and ir's Lower. Conditions: as each theorem states. -/
import Derived.Test.YtlnefmgiiogcmaaGreatDoorQ33
import Derived.Test.YtlnefmgiiogcmaaGreatDoorQ13
import Derived.Test.YtlnefmgiiogcmaaGreatDoorQ04
import Derived.Test.YtlnefmgiiogcmaaGreatDoorQ34
import Derived.Test.YtlnefmgiiogcmaaGreatDoorQ35
import Derived.Test.YtlnefmgiiogcmaaGreatDoorQ36
import Derived.Test.YtlnefmgiiogcmaaGreatDoorQ37
import Derived.Test.YtlnefmgiiogcmaaGreatDoorQ38
import Derived.Test.YtlnefmgiiogcmaaGreatDoorQ39
import Derived.Test.YtlnefmgiiogcmaaGreatDoorQ40
import Derived.Test.YtlnefmgiiogcmaaGreatDoorQ41
import Derived.Test.YtlnefmgiiogcmaaGreatDoorQ18
import Derived.Test.YtlnefmgiiogcmaaGreatDoorQ12
import Derived.StillTailTactics
set_option linter.unusedVariables false
set_option linter.unusedSimpArgs false
namespace Go.Proofs.YtlnefmgiiogcmaaGreatDoor
open Go.RowKit
set_option maxHeartbeats 4000000
section
variable {w0 w : World} {lb : Nat} {pc : Int} {n : Nat} {ov : Value} {ops : List OpN}
theorem sums42 (h : LwW w0 w lb pc n ov ops) (hl : ops.length < 900) (s t d : Nat) (m : Int) (hm0 : 0 ≤ m) (hm1 : m < 65536) :
    Calls Tryz.prog 42 #[.pointer (some ⟨lb, 0, none⟩), insA 42 s t d m, .int .u32 (wideS m)] w fun e w' => Adds w0 w lb pc n (ops ++ lowIns 42 s t d m n) e w' := by
  have HE : Hid (lowIns 42 s t d m n = setOp t (m * 65536) n) := by
    show setOp t (m * 65536 % 4294967296) n = _
    rw [Int.emod_eq_of_lt (by omega) (by omega)]
  have HD := Lib.hid (set_any (h.box 42 s t d m) (by omega) t (m * 65536))
  obtain ⟨im, him⟩ : ∃ im, wideS m = im := ⟨_, rfl⟩
  rw [him]
  have HIM := Lib.hid him
  clear him
  clear h hl
  go_enter Tryz.func42, Tryz.ntmps42
  go_wp2_with fail
  refine HD.out.mono ?_
  rintro e w1 ⟨rfl, hK, ov1, hL⟩
  have HL2 := Lib.hid hL
  have HK2 := Lib.hid hK
  clear hL hK
  go_wp2
  go_end0
  exact ⟨rfl, boxW.kept HK2.out, ov1, by rw [HE.out]; exact HL2.out⟩
end
end Go.Proofs.YtlnefmgiiogcmaaGreatDoor
namespace Go.Proofs.YtlnefmgiiogcmaaGreatDoor
open Go.RowKit
set_option maxHeartbeats 4000000
section
variable {w0 w : World} {lb : Nat} {pc : Int} {n : Nat} {ov : Value} {ops : List OpN}
theorem load46 (h : LwW w0 w lb pc n ov ops) (hl : ops.length < 900) (s t d : Nat) (m im : Int) :
    Calls Tryz.prog 40 #[.pointer (some ⟨lb, 0, none⟩), insA 46 s t d m, .int .u32 im] w fun e w' => Adds w0 w lb pc n (ops ++ [⟨.load, if t = 0 then 34 else t, s, -1, im, n⟩]) e w' := by
  by_cases h0 : t = 0
  · subst h0
    rw [if_pos rfl]
    have HD := Lib.hid (do_any (h.box 46 s 0 d m) (by omega) .load 34 s (-1) im)
    clear h hl
    go_enter Tryz.func40, Tryz.ntmps40
    go_wp2_with fail
    refine (size_any 46 (by decide) _).mono ?_
    rintro e w2 ⟨rfl, rfl⟩
    unfold sizeT
    go_wp2_with fail
    refine HD.out.mono ?_
    rintro e w1 ⟨rfl, hK, ov1, hL⟩
    have HL2 := Lib.hid hL
    have HK2 := Lib.hid hK
    clear hL hK
    go_wp2
    go_end0
    exact ⟨rfl, boxW.kept HK2.out, ov1, HL2.out⟩
  · rw [if_neg h0]
    have h0' : ((t : Int) == 0) = false := by simp only [beq_eq_false_iff_ne, ne_eq]; omega
    clear h0
    have HD := Lib.hid (do_any (h.box 46 s t d m) (by omega) .load t s (-1) im)
    clear h hl
    go_enter Tryz.func40, Tryz.ntmps40
    go_wp2_with fail
    refine (size_any 46 (by decide) _).mono ?_
    rintro e w2 ⟨rfl, rfl⟩
    unfold sizeT
    go_wp2_with fail
    refine HD.out.mono ?_
    rintro e w1 ⟨rfl, hK, ov1, hL⟩
    have HL2 := Lib.hid hL
    have HK2 := Lib.hid hK
    clear hL hK
    go_wp2
    go_end0
    exact ⟨rfl, boxW.kept HK2.out, ov1, HL2.out⟩
theorem load47 (h : LwW w0 w lb pc n ov ops) (hl : ops.length < 900) (s t d : Nat) (m im : Int) :
    Calls Tryz.prog 40 #[.pointer (some ⟨lb, 0, none⟩), insA 47 s t d m, .int .u32 im] w fun e w' => Adds w0 w lb pc n (ops ++ [⟨.load, if t = 0 then 34 else t, s, -2, im, n⟩]) e w' := by
  by_cases h0 : t = 0
  · subst h0
    rw [if_pos rfl]
    have HD := Lib.hid (do_any (h.box 47 s 0 d m) (by omega) .load 34 s (-2) im)
    clear h hl
    go_enter Tryz.func40, Tryz.ntmps40
    go_wp2_with fail
    refine (size_any 47 (by decide) _).mono ?_
    rintro e w2 ⟨rfl, rfl⟩
    unfold sizeT
    go_wp2_with fail
    refine HD.out.mono ?_
    rintro e w1 ⟨rfl, hK, ov1, hL⟩
    have HL2 := Lib.hid hL
    have HK2 := Lib.hid hK
    clear hL hK
    go_wp2
    go_end0
    exact ⟨rfl, boxW.kept HK2.out, ov1, HL2.out⟩
  · rw [if_neg h0]
    have h0' : ((t : Int) == 0) = false := by simp only [beq_eq_false_iff_ne, ne_eq]; omega
    clear h0
    have HD := Lib.hid (do_any (h.box 47 s t d m) (by omega) .load t s (-2) im)
    clear h hl
    go_enter Tryz.func40, Tryz.ntmps40
    go_wp2_with fail
    refine (size_any 47 (by decide) _).mono ?_
    rintro e w2 ⟨rfl, rfl⟩
    unfold sizeT
    go_wp2_with fail
    refine HD.out.mono ?_
    rintro e w1 ⟨rfl, hK, ov1, hL⟩
    have HL2 := Lib.hid hL
    have HK2 := Lib.hid hK
    clear hL hK
    go_wp2
    go_end0
    exact ⟨rfl, boxW.kept HK2.out, ov1, HL2.out⟩
theorem load48 (h : LwW w0 w lb pc n ov ops) (hl : ops.length < 900) (s t d : Nat) (m im : Int) :
    Calls Tryz.prog 40 #[.pointer (some ⟨lb, 0, none⟩), insA 48 s t d m, .int .u32 im] w fun e w' => Adds w0 w lb pc n (ops ++ [⟨.load, if t = 0 then 34 else t, s, 4, im, n⟩]) e w' := by
  by_cases h0 : t = 0
  · subst h0
    rw [if_pos rfl]
    have HD := Lib.hid (do_any (h.box 48 s 0 d m) (by omega) .load 34 s (4) im)
    clear h hl
    go_enter Tryz.func40, Tryz.ntmps40
    go_wp2_with fail
    refine (size_any 48 (by decide) _).mono ?_
    rintro e w2 ⟨rfl, rfl⟩
    unfold sizeT
    go_wp2_with fail
    refine HD.out.mono ?_
    rintro e w1 ⟨rfl, hK, ov1, hL⟩
    have HL2 := Lib.hid hL
    have HK2 := Lib.hid hK
    clear hL hK
    go_wp2
    go_end0
    exact ⟨rfl, boxW.kept HK2.out, ov1, HL2.out⟩
  · rw [if_neg h0]
    have h0' : ((t : Int) == 0) = false := by simp only [beq_eq_false_iff_ne, ne_eq]; omega
    clear h0
    have HD := Lib.hid (do_any (h.box 48 s t d m) (by omega) .load t s (4) im)
    clear h hl
    go_enter Tryz.func40, Tryz.ntmps40
    go_wp2_with fail
    refine (size_any 48 (by decide) _).mono ?_
    rintro e w2 ⟨rfl, rfl⟩
    unfold sizeT
    go_wp2_with fail
    refine HD.out.mono ?_
    rintro e w1 ⟨rfl, hK, ov1, hL⟩
    have HL2 := Lib.hid hL
    have HK2 := Lib.hid hK
    clear hL hK
    go_wp2
    go_end0
    exact ⟨rfl, boxW.kept HK2.out, ov1, HL2.out⟩
theorem load49 (h : LwW w0 w lb pc n ov ops) (hl : ops.length < 900) (s t d : Nat) (m im : Int) :
    Calls Tryz.prog 40 #[.pointer (some ⟨lb, 0, none⟩), insA 49 s t d m, .int .u32 im] w fun e w' => Adds w0 w lb pc n (ops ++ [⟨.load, if t = 0 then 34 else t, s, 1, im, n⟩]) e w' := by
  by_cases h0 : t = 0
  · subst h0
    rw [if_pos rfl]
    have HD := Lib.hid (do_any (h.box 49 s 0 d m) (by omega) .load 34 s (1) im)
    clear h hl
    go_enter Tryz.func40, Tryz.ntmps40
    go_wp2_with fail
    refine (size_any 49 (by decide) _).mono ?_
    rintro e w2 ⟨rfl, rfl⟩
    unfold sizeT
    go_wp2_with fail
    refine HD.out.mono ?_
    rintro e w1 ⟨rfl, hK, ov1, hL⟩
    have HL2 := Lib.hid hL
    have HK2 := Lib.hid hK
    clear hL hK
    go_wp2
    go_end0
    exact ⟨rfl, boxW.kept HK2.out, ov1, HL2.out⟩
  · rw [if_neg h0]
    have h0' : ((t : Int) == 0) = false := by simp only [beq_eq_false_iff_ne, ne_eq]; omega
    clear h0
    have HD := Lib.hid (do_any (h.box 49 s t d m) (by omega) .load t s (1) im)
    clear h hl
    go_enter Tryz.func40, Tryz.ntmps40
    go_wp2_with fail
    refine (size_any 49 (by decide) _).mono ?_
    rintro e w2 ⟨rfl, rfl⟩
    unfold sizeT
    go_wp2_with fail
    refine HD.out.mono ?_
    rintro e w1 ⟨rfl, hK, ov1, hL⟩
    have HL2 := Lib.hid hL
    have HK2 := Lib.hid hK
    clear hL hK
    go_wp2
    go_end0
    exact ⟨rfl, boxW.kept HK2.out, ov1, HL2.out⟩
theorem load50 (h : LwW w0 w lb pc n ov ops) (hl : ops.length < 900) (s t d : Nat) (m im : Int) :
    Calls Tryz.prog 40 #[.pointer (some ⟨lb, 0, none⟩), insA 50 s t d m, .int .u32 im] w fun e w' => Adds w0 w lb pc n (ops ++ [⟨.load, if t = 0 then 34 else t, s, 2, im, n⟩]) e w' := by
  by_cases h0 : t = 0
  · subst h0
    rw [if_pos rfl]
    have HD := Lib.hid (do_any (h.box 50 s 0 d m) (by omega) .load 34 s (2) im)
    clear h hl
    go_enter Tryz.func40, Tryz.ntmps40
    go_wp2_with fail
    refine (size_any 50 (by decide) _).mono ?_
    rintro e w2 ⟨rfl, rfl⟩
    unfold sizeT
    go_wp2_with fail
    refine HD.out.mono ?_
    rintro e w1 ⟨rfl, hK, ov1, hL⟩
    have HL2 := Lib.hid hL
    have HK2 := Lib.hid hK
    clear hL hK
    go_wp2
    go_end0
    exact ⟨rfl, boxW.kept HK2.out, ov1, HL2.out⟩
  · rw [if_neg h0]
    have h0' : ((t : Int) == 0) = false := by simp only [beq_eq_false_iff_ne, ne_eq]; omega
    clear h0
    have HD := Lib.hid (do_any (h.box 50 s t d m) (by omega) .load t s (2) im)
    clear h hl
    go_enter Tryz.func40, Tryz.ntmps40
    go_wp2_with fail
    refine (size_any 50 (by decide) _).mono ?_
    rintro e w2 ⟨rfl, rfl⟩
    unfold sizeT
    go_wp2_with fail
    refine HD.out.mono ?_
    rintro e w1 ⟨rfl, hK, ov1, hL⟩
    have HL2 := Lib.hid hL
    have HK2 := Lib.hid hK
    clear hL hK
    go_wp2
    go_end0
    exact ⟨rfl, boxW.kept HK2.out, ov1, HL2.out⟩
end
end Go.Proofs.YtlnefmgiiogcmaaGreatDoor
namespace Go.Proofs.YtlnefmgiiogcmaaGreatDoor
open Go.RowKit
set_option maxHeartbeats 4000000
section
variable {w0 w : World} {lb : Nat} {pc : Int} {n : Nat} {ov : Value} {ops : List OpN}
theorem branch31 (h : LwW w0 w lb pc n ov ops) (hl : ops.length < 900) (s t d : Nat) (m : Int) :
    Calls Tryz.prog 18 #[.pointer (some ⟨lb, 0, none⟩), insA 31 s t d m] w fun e w' => Adds w0 w lb pc n (ops ++ lowBr pc 31 s t d n) e w' := by
  have HD1 := Lib.hid (do_any (h.box 31 s t d m) (by omega) .xor 34 s (t : Int) 0)
  have HF0 : InsB (boxW w 31 s t d m) w.heap.size 31 s t d m := Five.new w _ _ _ _ _ _
  have HLN := Lib.hid hl
  clear h hl
  go_enter Tryz.func18, Tryz.ntmps18
  go_wp2_with fail
  refine HD1.out.mono ?_
  rintro e w1 ⟨rfl, hK, ov1, hL⟩
  have HF1 := HF0.kept hK
  obtain ⟨c0, c1, c2, c3, c4⟩ := Five.cells HF1
  have HD2 := Lib.hid (do_any hL (by simp only [List.length_append, List.length_cons, List.length_nil]; have := HLN.out; omega) .set 35 0 0 1)
  have HK1 := Lib.hid hK
  clear hL hK
  go_wp2_with fail
  refine HD2.out.mono ?_
  rintro e w2 ⟨rfl, hK, ov2, hL⟩
  have HF2 := HF1.kept hK
  clear c0 c1 c2 c3 c4
  obtain ⟨c0, c1, c2, c3, c4⟩ := Five.cells HF2
  have HD3 := Lib.hid (do_any hL (by simp only [List.length_append, List.length_cons, List.length_nil]; have := HLN.out; omega) .sltu 36 34 35 0)
  have HK2 := Lib.hid hK
  clear hL hK
  go_wp2_with fail
  refine HD3.out.mono ?_
  rintro e w3 ⟨rfl, hK, ov3, hL⟩
  have HL := Lib.hid hL
  have HK3 := Lib.hid hK
  clear hL hK
  go_wp2
  go_end0
  exact ⟨rfl, boxW.kept ((HK1.out.trans HK2.out).trans HK3.out), ov3, by have := HL.out; simp only [List.append_assoc] at this; exact this⟩
theorem branch32 (h : LwW w0 w lb pc n ov ops) (hl : ops.length < 900) (s t d : Nat) (m : Int) :
    Calls Tryz.prog 18 #[.pointer (some ⟨lb, 0, none⟩), insA 32 s t d m] w fun e w' => Adds w0 w lb pc n (ops ++ lowBr pc 32 s t d n) e w' := by
  have HD1 := Lib.hid (do_any (h.box 32 s t d m) (by omega) .xor 36 s (t : Int) 0)
  have HF0 : InsB (boxW w 32 s t d m) w.heap.size 32 s t d m := Five.new w _ _ _ _ _ _
  have HLN := Lib.hid hl
  clear h hl
  go_enter Tryz.func18, Tryz.ntmps18
  go_wp2_with fail
  refine HD1.out.mono ?_
  rintro e w1 ⟨rfl, hK, ov1, hL⟩
  have HL := Lib.hid hL
  have HK1 := Lib.hid hK
  clear hL hK
  go_wp2
  go_end0
  exact ⟨rfl, boxW.kept HK1.out, ov1, HL.out⟩
theorem branch33 (h : LwW w0 w lb pc n ov ops) (hl : ops.length < 900) (s t d : Nat) (m : Int) :
    Calls Tryz.prog 18 #[.pointer (some ⟨lb, 0, none⟩), insA 33 s t d m] w fun e w' => Adds w0 w lb pc n (ops ++ lowBr pc 33 s t d n) e w' := by
  have HD1 := Lib.hid (do_any (h.box 33 s t d m) (by omega) .set 35 0 0 1)
  have HF0 : InsB (boxW w 33 s t d m) w.heap.size 33 s t d m := Five.new w _ _ _ _ _ _
  have HLN := Lib.hid hl
  clear h hl
  go_enter Tryz.func18, Tryz.ntmps18
  go_wp2_with fail
  refine HD1.out.mono ?_
  rintro e w1 ⟨rfl, hK, ov1, hL⟩
  have HF1 := HF0.kept hK
  obtain ⟨c0, c1, c2, c3, c4⟩ := Five.cells HF1
  have HD2 := Lib.hid (do_any hL (by simp only [List.length_append, List.length_cons, List.length_nil]; have := HLN.out; omega) .slt 36 s 35 0)
  have HK1 := Lib.hid hK
  clear hL hK
  go_wp2_with fail
  refine HD2.out.mono ?_
  rintro e w2 ⟨rfl, hK, ov2, hL⟩
  have HL := Lib.hid hL
  have HK2 := Lib.hid hK
  clear hL hK
  go_wp2
  go_end0
  exact ⟨rfl, boxW.kept (HK1.out.trans HK2.out), ov2, by have := HL.out; simp only [List.append_assoc] at this; exact this⟩
theorem branch34 (h : LwW w0 w lb pc n ov ops) (hl : ops.length < 900) (s t d : Nat) (m : Int) :
    Calls Tryz.prog 18 #[.pointer (some ⟨lb, 0, none⟩), insA 34 s t d m] w fun e w' => Adds w0 w lb pc n (ops ++ lowBr pc 34 s t d n) e w' := by
  have HD1 := Lib.hid (do_any (h.box 34 s t d m) (by omega) .slt 36 0 (s : Int) 0)
  have HF0 : InsB (boxW w 34 s t d m) w.heap.size 34 s t d m := Five.new w _ _ _ _ _ _
  have HLN := Lib.hid hl
  clear h hl
  go_enter Tryz.func18, Tryz.ntmps18
  go_wp2_with fail
  refine HD1.out.mono ?_
  rintro e w1 ⟨rfl, hK, ov1, hL⟩
  have HL := Lib.hid hL
  have HK1 := Lib.hid hK
  clear hL hK
  go_wp2
  go_end0
  exact ⟨rfl, boxW.kept HK1.out, ov1, HL.out⟩
theorem branch7 (h : LwW w0 w lb pc n ov ops) (hl : ops.length < 900) (s t d : Nat) (m : Int) :
    Calls Tryz.prog 18 #[.pointer (some ⟨lb, 0, none⟩), insA 7 s t d m] w fun e w' => Adds w0 w lb pc n (ops ++ lowBr pc 7 s t d n) e w' := by
  have HD1 := Lib.hid (do_any (h.box 7 s t d m) (by omega) .copy 37 s 0 0)
  have HF0 : InsB (boxW w 7 s t d m) w.heap.size 7 s t d m := Five.new w _ _ _ _ _ _
  have HLN := Lib.hid hl
  clear h hl
  go_enter Tryz.func18, Tryz.ntmps18
  go_wp2_with fail
  refine HD1.out.mono ?_
  rintro e w1 ⟨rfl, hK, ov1, hL⟩
  have HL := Lib.hid hL
  have HK1 := Lib.hid hK
  clear hL hK
  go_wp2
  go_end0
  exact ⟨rfl, boxW.kept HK1.out, ov1, HL.out⟩
theorem leave7 (h : LwW w0 w lb pc n ov ops) (hl : ops.length < 900) (s t d : Nat) (m p : Int) :
    Calls Tryz.prog 20 #[.pointer (some ⟨lb, 0, none⟩), insA 7 s t d m, .int .u32 p] w fun e w' => Adds w0 w lb pc n (ops ++ lowLv p 7 m n) e w' := by
  have HD1 := Lib.hid (do_any (h.box 7 s t d m) (by omega) .outr 0 37 0 0)
  clear h hl
  go_enter Tryz.func20, Tryz.ntmps20
  go_wp2_with fail
  refine HD1.out.mono ?_
  rintro e w1 ⟨rfl, hK, ov1, hL⟩
  have HL := Lib.hid hL
  have HK1 := Lib.hid hK
  clear hL hK
  go_wp2
  go_end0
  exact ⟨rfl, boxW.kept HK1.out, ov1, HL.out⟩
theorem leave8 (h : LwW w0 w lb pc n ov ops) (hl : ops.length < 900) (s t d : Nat) (m p : Int) :
    Calls Tryz.prog 20 #[.pointer (some ⟨lb, 0, none⟩), insA 8 s t d m, .int .u32 p] w fun e w' => Adds w0 w lb pc n (ops ++ lowLv p 8 m n) e w' := by
  have HD1 := Lib.hid (do_any (h.box 8 s t d m) (by omega) .outr 0 37 0 0)
  clear h hl
  go_enter Tryz.func20, Tryz.ntmps20
  go_wp2_with fail
  refine HD1.out.mono ?_
  rintro e w1 ⟨rfl, hK, ov1, hL⟩
  have HL := Lib.hid hL
  have HK1 := Lib.hid hK
  clear hL hK
  go_wp2
  go_end0
  exact ⟨rfl, boxW.kept HK1.out, ov1, HL.out⟩
end
end Go.Proofs.YtlnefmgiiogcmaaGreatDoor
namespace Go.Proofs.YtlnefmgiiogcmaaGreatDoor
open Go.RowKit
set_option maxHeartbeats 4000000
section
variable {w0 w : World} {lb : Nat} {pc : Int} {n : Nat} {ov : Value} {ops : List OpN}
theorem wideS_rangeL (m : Int) : 0 ≤ wideS m ∧ wideS m < 4294967296 := by unfold wideS; omega
theorem leave31 (h : LwW w0 w lb pc n ov ops) (hl : ops.length < 900) (s t d : Nat) (m p : Int) (hm0 : 0 ≤ m) (hm1 : m < 67108864) (hp0 : 0 ≤ p) (hp1 : p < 4294967296) :
    Calls Tryz.prog 20 #[.pointer (some ⟨lb, 0, none⟩), insA 31 s t d m, .int .u32 p] w fun e w' => Adds w0 w lb pc n (ops ++ lowLv p 31 m n) e w' := by
  have HLN := Lib.hid hl
  have HW := Lib.hid (fun wx => wide16_any m hm0 (by omega) wx)
  obtain ⟨q, hq⟩ : ∃ q, wideS m = q := ⟨_, rfl⟩
  have hqr := wideS_rangeL m
  rw [hq] at HW hqr
  obtain ⟨q0, q1⟩ := hqr
  have HL0 : Hid (lowLv p 31 m n = [⟨.cond, 0, 36, 0, (p + 4 + q * 4) % 4294967296, n⟩] ++ [⟨.out, 0, 0, 0, (p + 8) % 4294967296, n⟩]) := by rw [← hq]; rfl
  have HD1 := Lib.hid (do_any (h.box 31 s t d m) (by omega) .cond 0 36 0 ((p + 4 + q * 4) % 4294967296))
  clear h hl hq
  go_enter Tryz.func20, Tryz.ntmps20
  go_wp2_with fail
  refine (HW.out _).mono ?_
  rintro e w1 ⟨rfl, rfl⟩
  go_wp2_with fail
  refine HD1.out.mono ?_
  rintro e w1 ⟨rfl, hK, ov1, hL⟩
  have HD2 := Lib.hid (do_any hL (by rw [List.length_append]; have := HLN.out; simp; omega) .out 0 0 0 ((p + 8) % 4294967296))
  have HK1 := Lib.hid hK
  clear hL hK
  go_wp2_with fail
  refine HD2.out.mono ?_
  rintro e w2 ⟨rfl, hK, ov2, hL⟩
  have HL2 := Lib.hid hL
  have HK2 := Lib.hid hK
  clear hL hK
  go_wp2
  go_end0
  exact ⟨rfl, boxW.kept (HK1.out.trans HK2.out), ov2, by have := HL2.out; rw [List.append_assoc] at this; rw [HL0.out]; exact this⟩
theorem leave32 (h : LwW w0 w lb pc n ov ops) (hl : ops.length < 900) (s t d : Nat) (m p : Int) (hm0 : 0 ≤ m) (hm1 : m < 67108864) (hp0 : 0 ≤ p) (hp1 : p < 4294967296) :
    Calls Tryz.prog 20 #[.pointer (some ⟨lb, 0, none⟩), insA 32 s t d m, .int .u32 p] w fun e w' => Adds w0 w lb pc n (ops ++ lowLv p 32 m n) e w' := by
  have HLN := Lib.hid hl
  have HW := Lib.hid (fun wx => wide16_any m hm0 (by omega) wx)
  obtain ⟨q, hq⟩ : ∃ q, wideS m = q := ⟨_, rfl⟩
  have hqr := wideS_rangeL m
  rw [hq] at HW hqr
  obtain ⟨q0, q1⟩ := hqr
  have HL0 : Hid (lowLv p 32 m n = [⟨.cond, 0, 36, 0, (p + 4 + q * 4) % 4294967296, n⟩] ++ [⟨.out, 0, 0, 0, (p + 8) % 4294967296, n⟩]) := by rw [← hq]; rfl
  have HD1 := Lib.hid (do_any (h.box 32 s t d m) (by omega) .cond 0 36 0 ((p + 4 + q * 4) % 4294967296))
  clear h hl hq
  go_enter Tryz.func20, Tryz.ntmps20
  go_wp2_with fail
  refine (HW.out _).mono ?_
  rintro e w1 ⟨rfl, rfl⟩
  go_wp2_with fail
  refine HD1.out.mono ?_
  rintro e w1 ⟨rfl, hK, ov1, hL⟩
  have HD2 := Lib.hid (do_any hL (by rw [List.length_append]; have := HLN.out; simp; omega) .out 0 0 0 ((p + 8) % 4294967296))
  have HK1 := Lib.hid hK
  clear hL hK
  go_wp2_with fail
  refine HD2.out.mono ?_
  rintro e w2 ⟨rfl, hK, ov2, hL⟩
  have HL2 := Lib.hid hL
  have HK2 := Lib.hid hK
  clear hL hK
  go_wp2
  go_end0
  exact ⟨rfl, boxW.kept (HK1.out.trans HK2.out), ov2, by have := HL2.out; rw [List.append_assoc] at this; rw [HL0.out]; exact this⟩
theorem leave33 (h : LwW w0 w lb pc n ov ops) (hl : ops.length < 900) (s t d : Nat) (m p : Int) (hm0 : 0 ≤ m) (hm1 : m < 67108864) (hp0 : 0 ≤ p) (hp1 : p < 4294967296) :
    Calls Tryz.prog 20 #[.pointer (some ⟨lb, 0, none⟩), insA 33 s t d m, .int .u32 p] w fun e w' => Adds w0 w lb pc n (ops ++ lowLv p 33 m n) e w' := by
  have HLN := Lib.hid hl
  have HW := Lib.hid (fun wx => wide16_any m hm0 (by omega) wx)
  obtain ⟨q, hq⟩ : ∃ q, wideS m = q := ⟨_, rfl⟩
  have hqr := wideS_rangeL m
  rw [hq] at HW hqr
  obtain ⟨q0, q1⟩ := hqr
  have HL0 : Hid (lowLv p 33 m n = [⟨.cond, 0, 36, 0, (p + 4 + q * 4) % 4294967296, n⟩] ++ [⟨.out, 0, 0, 0, (p + 8) % 4294967296, n⟩]) := by rw [← hq]; rfl
  have HD1 := Lib.hid (do_any (h.box 33 s t d m) (by omega) .cond 0 36 0 ((p + 4 + q * 4) % 4294967296))
  clear h hl hq
  go_enter Tryz.func20, Tryz.ntmps20
  go_wp2_with fail
  refine (HW.out _).mono ?_
  rintro e w1 ⟨rfl, rfl⟩
  go_wp2_with fail
  refine HD1.out.mono ?_
  rintro e w1 ⟨rfl, hK, ov1, hL⟩
  have HD2 := Lib.hid (do_any hL (by rw [List.length_append]; have := HLN.out; simp; omega) .out 0 0 0 ((p + 8) % 4294967296))
  have HK1 := Lib.hid hK
  clear hL hK
  go_wp2_with fail
  refine HD2.out.mono ?_
  rintro e w2 ⟨rfl, hK, ov2, hL⟩
  have HL2 := Lib.hid hL
  have HK2 := Lib.hid hK
  clear hL hK
  go_wp2
  go_end0
  exact ⟨rfl, boxW.kept (HK1.out.trans HK2.out), ov2, by have := HL2.out; rw [List.append_assoc] at this; rw [HL0.out]; exact this⟩
theorem leave34 (h : LwW w0 w lb pc n ov ops) (hl : ops.length < 900) (s t d : Nat) (m p : Int) (hm0 : 0 ≤ m) (hm1 : m < 67108864) (hp0 : 0 ≤ p) (hp1 : p < 4294967296) :
    Calls Tryz.prog 20 #[.pointer (some ⟨lb, 0, none⟩), insA 34 s t d m, .int .u32 p] w fun e w' => Adds w0 w lb pc n (ops ++ lowLv p 34 m n) e w' := by
  have HLN := Lib.hid hl
  have HW := Lib.hid (fun wx => wide16_any m hm0 (by omega) wx)
  obtain ⟨q, hq⟩ : ∃ q, wideS m = q := ⟨_, rfl⟩
  have hqr := wideS_rangeL m
  rw [hq] at HW hqr
  obtain ⟨q0, q1⟩ := hqr
  have HL0 : Hid (lowLv p 34 m n = [⟨.cond, 0, 36, 0, (p + 4 + q * 4) % 4294967296, n⟩] ++ [⟨.out, 0, 0, 0, (p + 8) % 4294967296, n⟩]) := by rw [← hq]; rfl
  have HD1 := Lib.hid (do_any (h.box 34 s t d m) (by omega) .cond 0 36 0 ((p + 4 + q * 4) % 4294967296))
  clear h hl hq
  go_enter Tryz.func20, Tryz.ntmps20
  go_wp2_with fail
  refine (HW.out _).mono ?_
  rintro e w1 ⟨rfl, rfl⟩
  go_wp2_with fail
  refine HD1.out.mono ?_
  rintro e w1 ⟨rfl, hK, ov1, hL⟩
  have HD2 := Lib.hid (do_any hL (by rw [List.length_append]; have := HLN.out; simp; omega) .out 0 0 0 ((p + 8) % 4294967296))
  have HK1 := Lib.hid hK
  clear hL hK
  go_wp2_with fail
  refine HD2.out.mono ?_
  rintro e w2 ⟨rfl, hK, ov2, hL⟩
  have HL2 := Lib.hid hL
  have HK2 := Lib.hid hK
  clear hL hK
  go_wp2
  go_end0
  exact ⟨rfl, boxW.kept (HK1.out.trans HK2.out), ov2, by have := HL2.out; rw [List.append_assoc] at this; rw [HL0.out]; exact this⟩
end
end Go.Proofs.YtlnefmgiiogcmaaGreatDoor
namespace Go.Proofs.YtlnefmgiiogcmaaGreatDoor
open Go.RowKit
set_option maxHeartbeats 4000000
section
variable {w0 w : World} {lb : Nat} {pc : Int} {n : Nat} {ov : Value} {ops : List OpN}
theorem adds_afterR {f : Nat} {args : Array Value} {w1 wx : World} {ops' : List OpN} (hb : Below w1.heap.size w1 wx) (h : Calls Tryz.prog f args wx fun e w' => Adds w0 wx lb pc n ops' e w') :
    Calls Tryz.prog f args wx fun e w' => Adds w0 w1 lb pc n ops' e w' := h.mono fun _ _ ⟨e, k, o, l⟩ => ⟨e, (KeptT.of_below hb).trans k, o, l⟩
theorem branch30 (h : LwW w0 w lb pc n ov ops) (hl : ops.length < 900) (s t d : Nat) (m : Int) (hp0 : 0 ≤ pc) (hp1 : pc < 4294967296) (hn : n < 1000) :
    Calls Tryz.prog 18 #[.pointer (some ⟨lb, 0, none⟩), insA 30 s t d m] w fun e w' => Adds w0 w lb pc n (ops ++ lowBr pc 30 s t d n) e w' := by
  have HLN := Lib.hid hl
  have HB := h.box 30 s t d m
  obtain ⟨c0, c1, c2, f1, f2⟩ := LB.cells h.blk
  obtain ⟨p0, p1, p2, r1, r2⟩ := LB.cells HB.blk
  unfold boxW at p0 p1 p2 r1 r2
  have hlt : lb < w.heap.size := (Array.getElem?_eq_some_iff.1 h.blk).1
  have hne : w.heap.size ≠ lb := by omega
  have hne2 : lb ≠ w.heap.size := by omega
  have hn0 : (0 : Int) ≤ (n : Int) := by omega
  have hn1 : (n : Int) < 1000 := by omega
  have HV : Hid ((IntKind.u32.wrap (IntKind.u32.wrap (pc + IntKind.u32.wrap (4 * IntKind.u32.wrap (n : Int))) + 8)) = (pc + 4 * (n : Int) + 8) % 4294967296) := by
    refine Lib.hid ?_
    have e : ∀ x : Int, IntKind.u32.wrap x = x % 4294967296 := fun x => rfl
    simp only [e]
    omega
  have HDS := Lib.hid (fun wx (hb : Below (boxW w 30 s t d m).heap.size (boxW w 30 s t d m) wx) => adds_afterR hb (set_any (HB.trans hb) (by have := HLN.out; omega) 31 (IntKind.u32.wrap (IntKind.u32.wrap (pc + IntKind.u32.wrap (4 * IntKind.u32.wrap (n : Int))) + 8))))
  clear h hl HB
  go_enter Tryz.func18, Tryz.ntmps18
  go_wp2_with fail
  go_region_with ((go_at_call 38; refine (HDS.out _ (by first | exact Below.refl _ _ | exact blw_drewN (Below.refl _ _) _ | exact (Below.refl _ _).drew)).mono ?_; rintro e w4 ⟨rfl, hK4, ov4, hL4⟩))
  all_goals
    have HL4 := Lib.hid hL4
    have HK4 := Lib.hid hK4
    clear hL4 hK4
    go_wp2
    go_end0
    exact ⟨rfl, boxW.kept HK4.out, ov4, by have := HL4.out; rw [HV.out] at this; exact this⟩
theorem branch8 (h : LwW w0 w lb pc n ov ops) (hl : ops.length < 900) (s t d : Nat) (m : Int) (hp0 : 0 ≤ pc) (hp1 : pc < 4294967296) (hn : n < 1000) :
    Calls Tryz.prog 18 #[.pointer (some ⟨lb, 0, none⟩), insA 8 s t d m] w fun e w' => Adds w0 w lb pc n (ops ++ lowBr pc 8 s t d n) e w' := by
  have HLN := Lib.hid hl
  have HD1 := Lib.hid (do_any (h.box 8 s t d m) (by omega) .copy 37 s 0 0)
  have HF0 : InsB (boxW w 8 s t d m) w.heap.size 8 s t d m := Five.new w _ _ _ _ _ _
  have HV : Hid ((IntKind.u32.wrap (IntKind.u32.wrap (pc + IntKind.u32.wrap (4 * IntKind.u32.wrap (n : Int))) + 8)) = (pc + 4 * (n : Int) + 8) % 4294967296) := by
    refine Lib.hid ?_
    have e : ∀ x : Int, IntKind.u32.wrap x = x % 4294967296 := fun x => rfl
    simp only [e]
    omega
  have hn0 : (0 : Int) ≤ (n : Int) := by omega
  have hn1 : (n : Int) < 1000 := by omega
  clear h hl
  go_enter Tryz.func18, Tryz.ntmps18
  go_wp2_with fail
  refine HD1.out.mono ?_
  rintro e w1 ⟨rfl, hK, ov1, hL⟩
  have HF1 := HF0.kept hK
  obtain ⟨b0, b1, b2, b3, b4⟩ := Five.cells HF1
  obtain ⟨c0, c1, c2, f1, f2⟩ := LB.cells hL.blk
  have HDS := Lib.hid (fun wx (hb : Below w1.heap.size w1 wx) => adds_afterR hb (set_any (hL.trans hb) (by simp only [List.length_append, List.length_cons, List.length_nil]; have := HLN.out; omega) d (IntKind.u32.wrap (IntKind.u32.wrap (pc + IntKind.u32.wrap (4 * IntKind.u32.wrap (n : Int))) + 8))))
  have HK1 := Lib.hid hK
  clear hL hK HF1
  go_wp2_with fail
  go_region_with ((go_at_call 38; refine (HDS.out _ (by first | exact Below.refl _ _ | exact blw_drewN (Below.refl _ _) _ | exact (Below.refl _ _).drew)).mono ?_; rintro e w4 ⟨rfl, hK4, ov4, hL4⟩))
  all_goals
    have HL4 := Lib.hid hL4
    have HK4 := Lib.hid hK4
    clear hL4 hK4
    go_wp2
    go_end0
    exact ⟨rfl, boxW.kept (HK1.out.trans HK4.out), ov4, by have := HL4.out; rw [HV.out, List.append_assoc] at this; exact this⟩
end
end Go.Proofs.YtlnefmgiiogcmaaGreatDoor
namespace Go.Proofs.YtlnefmgiiogcmaaGreatDoor
open Go.RowKit
set_option maxHeartbeats 4000000
theorem far_eq (q m : Int) (q0 : 0 ≤ q) (q1 : q < 4294967296) (m0 : 0 ≤ m) (m1 : m < 67108864) : bits .or .u32 (bits .and .u32 q 4026531840) (m * 4) = q / 268435456 * 268435456 + 4 * m := by
  obtain ⟨a, rfl⟩ := Int.eq_ofNat_of_zero_le q0
  obtain ⟨b, rfl⟩ := Int.eq_ofNat_of_zero_le m0
  have hf := and_field a 28 4
  rw [show (2 ^ 4 - 1) * 2 ^ 28 = 4026531840 from rfl, show (2 : Nat) ^ 28 = 268435456 from rfl, show (2 : Nat) ^ 4 = 16 from rfl] at hf
  have ha : a / 268435456 % 16 = a / 268435456 := Nat.mod_eq_of_lt (by omega)
  rw [ha] at hf
  have h1 : bits .and .u32 (a : Int) 4026531840 = ((a / 268435456 * 268435456 : Nat) : Int) := by
    have := u32_and_nat a 4026531840 (by omega) (by omega)
    rw [hf] at this
    exact this
  have ho := Nat.two_pow_add_eq_or_of_lt (i := 28) (b := 4 * b) (by omega) (a / 268435456)
  rw [h1, show (b : Int) * 4 = ((4 * b : Nat) : Int) by omega, u32_or_nat _ _ (by omega) (by omega), show a / 268435456 * 268435456 = 2 ^ 28 * (a / 268435456) by omega, ← ho]
  omega
section
variable {w0 w : World} {lb : Nat} {pc : Int} {n : Nat} {ov : Value} {ops : List OpN}
theorem leave29 (h : LwW w0 w lb pc n ov ops) (hl : ops.length < 900) (s t d : Nat) (m p : Int) (hm0 : 0 ≤ m) (hm1 : m < 67108864) (hp0 : 0 ≤ p) (hp1 : p < 4294967296) :
    Calls Tryz.prog 20 #[.pointer (some ⟨lb, 0, none⟩), insA 29 s t d m, .int .u32 p] w fun e w' => Adds w0 w lb pc n (ops ++ lowLv p 29 m n) e w' := by
  have HD1 := Lib.hid (do_any (h.box 29 s t d m) (by omega) .out 0 0 0 (bits .or .u32 (bits .and .u32 ((p + 4) % 4294967296) 4026531840) (m * 4)))
  have HV := Lib.hid (far_eq ((p + 4) % 4294967296) m (by omega) (by omega) hm0 hm1)
  clear h hl
  go_enter Tryz.func20, Tryz.ntmps20
  go_wp2_with fail
  refine HD1.out.mono ?_
  rintro e w1 ⟨rfl, hK, ov1, hL⟩
  have HL := Lib.hid hL
  have HK1 := Lib.hid hK
  clear hL hK
  go_wp2
  go_end0
  exact ⟨rfl, boxW.kept HK1.out, ov1, by have := HL.out; rw [HV.out] at this; exact this⟩
theorem leave30 (h : LwW w0 w lb pc n ov ops) (hl : ops.length < 900) (s t d : Nat) (m p : Int) (hm0 : 0 ≤ m) (hm1 : m < 67108864) (hp0 : 0 ≤ p) (hp1 : p < 4294967296) :
    Calls Tryz.prog 20 #[.pointer (some ⟨lb, 0, none⟩), insA 30 s t d m, .int .u32 p] w fun e w' => Adds w0 w lb pc n (ops ++ lowLv p 30 m n) e w' := by
  have HD1 := Lib.hid (do_any (h.box 30 s t d m) (by omega) .out 0 0 0 (bits .or .u32 (bits .and .u32 ((p + 4) % 4294967296) 4026531840) (m * 4)))
  have HV := Lib.hid (far_eq ((p + 4) % 4294967296) m (by omega) (by omega) hm0 hm1)
  clear h hl
  go_enter Tryz.func20, Tryz.ntmps20
  go_wp2_with fail
  refine HD1.out.mono ?_
  rintro e w1 ⟨rfl, hK, ov1, hL⟩
  have HL := Lib.hid hL
  have HK1 := Lib.hid hK
  clear hL hK
  go_wp2
  go_end0
  exact ⟨rfl, boxW.kept HK1.out, ov1, by have := HL.out; rw [HV.out] at this; exact this⟩
theorem branch29 (h : LwW w0 w lb pc n ov ops) (s t d : Nat) (m : Int) :
    Calls Tryz.prog 18 #[.pointer (some ⟨lb, 0, none⟩), insA 29 s t d m] w fun e w' => Adds w0 w lb pc n (ops ++ lowBr pc 29 s t d n) e w' := by
  have HB := Lib.hid (h.box 29 s t d m)
  have HE : Hid (ops ++ lowBr pc 29 s t d n = ops) := List.append_nil ops
  clear h
  go_enter Tryz.func18, Tryz.ntmps18
  go_wp2
  go_end0
  exact ⟨rfl, boxW.kept (KeptT.refl _), ov, by rw [HE.out]; exact HB.out⟩
end
end Go.Proofs.YtlnefmgiiogcmaaGreatDoor
namespace Go.Proofs.YtlnefmgiiogcmaaGreatDoor
open Go.RowKit
section
variable {w0 w : World} {lb : Nat} {pc : Int} {n : Nat} {ov : Value} {ops : List OpN}
theorem ins_any (h : LwW w0 w lb pc n ov ops) (hl : ops.length < 900) (op s t d : Nat) (hop : plainOp op = true) (m : Int) (hm0 : 0 ≤ m) (hm1 : m < 65536) :
    Calls Tryz.prog 19 #[.pointer (some ⟨lb, 0, none⟩), insA op s t d m] w fun e w' => AddsB w0 w lb pc n (ops ++ lowIns op s t d m n) true e w' := by
  have h1 := plain_cases hop
  simp only [List.mem_cons, List.not_mem_nil, or_false] at h1
  rcases h1 with rfl | rfl | rfl | rfl | rfl | rfl | rfl | rfl | rfl | rfl | rfl | rfl | rfl | rfl | rfl | rfl | rfl | rfl | rfl | rfl | rfl | rfl | rfl | rfl | rfl | rfl | rfl | rfl | rfl | rfl | rfl | rfl | rfl | rfl | rfl | rfl | rfl | rfl | rfl | rfl
  · exact ins_sum h 1 s t d m hm0 hm1 (by decide +kernel) _ (fun wx hx => sums1 hx hl s t d m hm0 hm1)
  · exact ins_sum h 2 s t d m hm0 hm1 (by decide +kernel) _ (fun wx hx => sums2 hx hl s t d m hm0 hm1)
  · exact ins_sum h 3 s t d m hm0 hm1 (by decide +kernel) _ (fun wx hx => sums3 hx hl s t d m hm0 hm1)
  · exact ins_sum h 4 s t d m hm0 hm1 (by decide +kernel) _ (fun wx hx => sums4 hx hl s t d m hm0 hm1)
  · exact ins_sum h 5 s t d m hm0 hm1 (by decide +kernel) _ (fun wx hx => sums5 hx hl s t d m hm0 hm1)
  · exact ins_sum h 6 s t d m hm0 hm1 (by decide +kernel) _ (fun wx hx => sums6 hx hl s t d m hm0 hm1)
  · exact ins_sum h 11 s t d m hm0 hm1 (by decide +kernel) _ (fun wx hx => sums11 hx hl s t d m hm0 hm1)
  · exact ins_sum h 12 s t d m hm0 hm1 (by decide +kernel) _ (fun wx hx => sums12 hx hl s t d m hm0 hm1)
  · exact ins_sum h 13 s t d m hm0 hm1 (by decide +kernel) _ (fun wx hx => sums13 hx hl s t d m hm0 hm1)
  · exact ins_sum h 14 s t d m hm0 hm1 (by decide +kernel) _ (fun wx hx => sums14 hx hl s t d m hm0 hm1)
  · exact ins_sum h 15 s t d m hm0 hm1 (by decide +kernel) _ (fun wx hx => sums15 hx hl s t d m hm0 hm1)
  · exact ins_sum h 16 s t d m hm0 hm1 (by decide +kernel) _ (fun wx hx => sums16 hx hl s t d m hm0 hm1)
  · exact ins_sum h 17 s t d m hm0 hm1 (by decide +kernel) _ (fun wx hx => sums17 hx hl s t d m hm0 hm1)
  · exact ins_sum h 18 s t d m hm0 hm1 (by decide +kernel) _ (fun wx hx => sums18 hx hl s t d m hm0 hm1)
  · exact ins_sum h 19 s t d m hm0 hm1 (by decide +kernel) _ (fun wx hx => sums19 hx hl s t d m hm0 hm1)
  · exact ins_sum h 20 s t d m hm0 hm1 (by decide +kernel) _ (fun wx hx => sumsK hx hl 20 (by decide) s t d m hm0 hm1)
  · exact ins_sum h 21 s t d m hm0 hm1 (by decide +kernel) _ (fun wx hx => sums21 hx hl s t d m hm0 hm1)
  · exact ins_sum h 22 s t d m hm0 hm1 (by decide +kernel) _ (fun wx hx => sumsK hx hl 22 (by decide) s t d m hm0 hm1)
  · exact ins_sum h 23 s t d m hm0 hm1 (by decide +kernel) _ (fun wx hx => sumsK hx hl 23 (by decide) s t d m hm0 hm1)
  · exact ins_sum h 24 s t d m hm0 hm1 (by decide +kernel) _ (fun wx hx => sumsK hx hl 24 (by decide) s t d m hm0 hm1)
  · exact ins_sum h 25 s t d m hm0 hm1 (by decide +kernel) _ (fun wx hx => sumsK hx hl 25 (by decide) s t d m hm0 hm1)
  · exact ins_sum h 26 s t d m hm0 hm1 (by decide +kernel) _ (fun wx hx => sumsK hx hl 26 (by decide) s t d m hm0 hm1)
  · exact ins_sum h 27 s t d m hm0 hm1 (by decide +kernel) _ (fun wx hx => sumsK hx hl 27 (by decide) s t d m hm0 hm1)
  · exact ins_sum h 28 s t d m hm0 hm1 (by decide +kernel) _ (fun wx hx => sumsK hx hl 28 (by decide) s t d m hm0 hm1)
  · exact ins_sum h 35 s t d m hm0 hm1 (by decide +kernel) _ (fun wx hx => sums35 hx hl s t d m hm0 hm1)
  · exact ins_sum h 36 s t d m hm0 hm1 (by decide +kernel) _ (fun wx hx => sums36 hx hl s t d m hm0 hm1)
  · exact ins_sum h 37 s t d m hm0 hm1 (by decide +kernel) _ (fun wx hx => sums37 hx hl s t d m hm0 hm1)
  · exact ins_sum h 38 s t d m hm0 hm1 (by decide +kernel) _ (fun wx hx => sums38 hx hl s t d m hm0 hm1)
  · exact ins_sum h 39 s t d m hm0 hm1 (by decide +kernel) _ (fun wx hx => sums39 hx hl s t d m hm0 hm1)
  · exact ins_sum h 40 s t d m hm0 hm1 (by decide +kernel) _ (fun wx hx => sums40 hx hl s t d m hm0 hm1)
  · exact ins_sum h 41 s t d m hm0 hm1 (by decide +kernel) _ (fun wx hx => sums41 hx hl s t d m hm0 hm1)
  · exact ins_sum h 42 s t d m hm0 hm1 (by decide +kernel) _ (fun wx hx => sums42 hx hl s t d m hm0 hm1)
  · exact ins_load h 46 s t d m hm0 hm1 (by decide +kernel) _ (fun wx hx => load46 hx hl s t d m (wideS m))
  · exact ins_load h 47 s t d m hm0 hm1 (by decide +kernel) _ (fun wx hx => load47 hx hl s t d m (wideS m))
  · exact ins_load h 48 s t d m hm0 hm1 (by decide +kernel) _ (fun wx hx => load48 hx hl s t d m (wideS m))
  · exact ins_load h 49 s t d m hm0 hm1 (by decide +kernel) _ (fun wx hx => load49 hx hl s t d m (wideS m))
  · exact ins_load h 50 s t d m hm0 hm1 (by decide +kernel) _ (fun wx hx => load50 hx hl s t d m (wideS m))
  · exact ins_store h hl 51 s t d 1 m hm0 hm1 (by decide +kernel) (by decide) rfl
  · exact ins_store h hl 52 s t d 2 m hm0 hm1 (by decide +kernel) (by decide) rfl
  · exact ins_store h hl 53 s t d 4 m hm0 hm1 (by decide +kernel) (by decide) rfl
theorem branch_any (h : LwW w0 w lb pc n ov ops) (hl : ops.length < 900) (op s t d : Nat) (hop : brOp op = true) (m : Int) (hp0 : 0 ≤ pc) (hp1 : pc < 4294967296) (hn : n < 1000) :
    Calls Tryz.prog 18 #[.pointer (some ⟨lb, 0, none⟩), insA op s t d m] w fun e w' => Adds w0 w lb pc n (ops ++ lowBr pc op s t d n) e w' := by
  have h1 : op = 7 ∨ op = 8 ∨ op = 29 ∨ op = 30 ∨ op = 31 ∨ op = 32 ∨ op = 33 ∨ op = 34 := by
    unfold brOp at hop
    simpa using hop
  rcases h1 with rfl | rfl | rfl | rfl | rfl | rfl | rfl | rfl
  · exact branch7 h hl s t d m
  · exact branch8 h hl s t d m hp0 hp1 hn
  · exact branch29 h s t d m
  · exact branch30 h hl s t d m hp0 hp1 hn
  · exact branch31 h hl s t d m
  · exact branch32 h hl s t d m
  · exact branch33 h hl s t d m
  · exact branch34 h hl s t d m
theorem leave_any (h : LwW w0 w lb pc n ov ops) (hl : ops.length < 900) (op s t d : Nat) (hop : brOp op = true) (m p : Int) (hm0 : 0 ≤ m) (hm1 : m < 67108864) (hp0 : 0 ≤ p) (hp1 : p < 4294967296) :
    Calls Tryz.prog 20 #[.pointer (some ⟨lb, 0, none⟩), insA op s t d m, .int .u32 p] w fun e w' => Adds w0 w lb pc n (ops ++ lowLv p op m n) e w' := by
  have h1 : op = 7 ∨ op = 8 ∨ op = 29 ∨ op = 30 ∨ op = 31 ∨ op = 32 ∨ op = 33 ∨ op = 34 := by
    unfold brOp at hop
    simpa using hop
  rcases h1 with rfl | rfl | rfl | rfl | rfl | rfl | rfl | rfl
  · exact leave7 h hl s t d m p
  · exact leave8 h hl s t d m p
  · exact leave29 h hl s t d m p hm0 hm1 hp0 hp1
  · exact leave30 h hl s t d m p hm0 hm1 hp0 hp1
  · exact leave31 h hl s t d m p hm0 hm1 hp0 hp1
  · exact leave32 h hl s t d m p hm0 hm1 hp0 hp1
  · exact leave33 h hl s t d m p hm0 hm1 hp0 hp1
  · exact leave34 h hl s t d m p hm0 hm1 hp0 hp1
end
end Go.Proofs.YtlnefmgiiogcmaaGreatDoor
namespace Go.Proofs.YtlnefmgiiogcmaaGreatDoor
open Go.RowKit
abbrev Tri3C (w : World) (b : Nat) (a0 a1 a2 : Value) : Prop := w.heap[b]? = some (.cells #[a0, a1, a2] 34 (0, 0))
theorem Tri3C.cells {w : World} {b : Nat} {a0 a1 a2 : Value} (h : Tri3C w b a0 a1 a2) : w.cell? ⟨b, 0, none⟩ = some a0 ∧ w.cell? ⟨b, 1, none⟩ = some a1 ∧ w.cell? ⟨b, 2, none⟩ = some a2 ∧ w.frozen? ⟨b, 0, none⟩ = false ∧ w.frozen? ⟨b, 1, none⟩ = false ∧ w.frozen? ⟨b, 2, none⟩ = false := by
  unfold Tri3C at h
  refine ⟨?_, ?_, ?_, ?_, ?_, ?_⟩ <;> simp [World.cell?, World.frozen?, h]
abbrev fill3C (w : World) (b : Nat) (v0 v1 v2 : Value) : World := ((w.setCell ⟨b, 0, none⟩ v0).setCell ⟨b, 1, none⟩ v1).setCell ⟨b, 2, none⟩ v2
theorem Tri3C.fill {w : World} {b : Nat} {a0 a1 a2 : Value} (h : Tri3C w b a0 a1 a2) (v0 v1 v2 : Value) : Tri3C (fill3C w b v0 v1 v2) b v0 v1 v2 := Joins.block_setCell (Joins.block_setCell (Joins.block_setCell h v0) v1) v2
theorem below_fill3C {B : Nat} {a w : World} (h : Below B a w) {b : Nat} (hb : B ≤ b) (v0 v1 v2 : Value) : Below B a (fill3C w b v0 v1 v2) := ((h.setCell hb _).setCell hb _).setCell hb _
set_option maxHeartbeats 4000000 in
theorem ends_any {w : World} {g o cap : Nat} {l : List InsN} {pc : Int} {vp : Value} (hl : l.length ≤ 30) (h : InsAt w g o l) (hb : ∀ j (h : j < l.length), (kindOfB l[j].op = branchB ↔ brOp l[j].o = true)) :
    Calls Tryz.prog 17 #[.agg #[.int .u32 pc, .slice (some ⟨g, o, none⟩) l.length cap, vp]] w fun e w' => e = .returned (.string (if endsB l = true then ⟨#[98, 114, 97, 110, 99, 104]⟩ else ⟨#[111, 110]⟩)) ∧ Below w.heap.size w w' := by
  have hBox := (Below.refl w.heap.size w).alloc (Nat.le_refl _) (.cells #[.int .u32 pc, .slice (some ⟨g, o, none⟩) l.length cap, vp] 41)
  have HBOX := Lib.hid hBox
  have l30 : (l.length : Int) ≤ 30 := by omega
  by_cases h2 : 2 ≤ l.length
  · obtain ⟨z, hz⟩ : ∃ z : Nat, l.length = z + 2 := ⟨l.length - 2, by omega⟩
    have hzl : z < l.length := by omega
    have hzI : (l.length : Int) - 2 = (z : Int) := by omega
    have hzI2 : (z : Int) < (l.length : Int) := by omega
    have h1I : (1 : Int) < (l.length : Int) := by omega
    have he : endsB l = brOp (l[z]'hzl).o := by
      rw [endsB_at h2]
      simp only [show l.length - 2 = z by omega]
    have hk := hb z hzl
    obtain ⟨c0, c1, c2, c3, c4⟩ := (h.below hBox (by omega)).row z hzl
    have HK := Lib.hid (fun wx => kindOf_any (l[z]'hzl).op wx)
    have hkl : (bsl (kindOfB (l[z]'hzl).op)).toList = kindOfB (l[z]'hzl).op := bsl_toList' _
    have hfb : ((bsl (kindOfB (l[z]'hzl).op)).toList == [98, 114, 97, 110, 99, 104]) = endsB l := by
      rw [hkl, he]
      cases hbr : brOp (l[z]'hzl).o with
      | true => rw [hk.2 hbr]; rfl
      | false =>
        refine beq_eq_false_iff_ne.2 (fun e => ?_)
        rw [hk.1 e] at hbr
        cases hbr
    generalize bsl (kindOfB (l[z]'hzl).op) = kt at *
    generalize (l[z]'hzl).op = op at *
    generalize endsB l = eb at *
    clear h hb he hk hkl c1 c2 c3 c4 hBox h2 hz hl
    go_enter Tryz.func17, Tryz.ntmps17
    go_wp2_with fail
    (with_reducible refine (HK.out _).mono ?_)
    rintro e w2 ⟨rfl, hb2⟩
    have HBF := Lib.hid (HBOX.out.trans (hb2.mono HBOX.out.size))
    clear hb2 c0
    cases eb
    all_goals
      go_wp2
      go_ret
      exact ⟨rfl, HBF.out⟩
  · have he : endsB l = false := endsB_short (by omega)
    have h1I : decide ((1 : Int) < (l.length : Int)) = false := decide_eq_false (by omega)
    rw [he]
    clear h hb he hBox h2 hl
    go_enter Tryz.func17, Tryz.ntmps17
    go_wp2
    go_ret
    exact ⟨rfl, HBOX.out⟩
theorem LwW.setAt {w0 w : World} {lb : Nat} {pc : Int} {n : Nat} {ov : Value} {ops : List OpN} (h : LwW w0 w lb pc n ov ops) (k : Nat) : LwW w0 (w.setCell ⟨lb, 1, none⟩ (.int .i64 (k : Int))) lb pc k ov ops where
  blk := Joins.block_setCell (i := 1) h.blk (.int .i64 (k : Int))
  ops := own_block h.ops (fun g hg => setCell_other w lb 1 g _ (fun e => own_ne h.ops h.blk (by decide) (by rw [hg, e])))
  below := h.below.setCell (p := ⟨lb, 1, none⟩) h.lo _
  lo := h.lo
  size := by
    have hz : (w.setCell ⟨lb, 1, none⟩ (.int .i64 (k : Int))).heap.size = w.heap.size := by simp
    rw [hz]
    exact h.size
theorem KeptT.setAt {w : World} {lb : Nat} {pc : Int} {n : Nat} {ov : Value} (h : LB w lb pc n ov) (k : Nat) : KeptT w (w.setCell ⟨lb, 1, none⟩ (.int .i64 (k : Int))) := by
  intro b cs t fr hk n1 n2
  refine (setCell_other w lb 1 b _ (fun e => ?_)).trans hk
  subst e
  unfold LB at h
  rw [hk] at h
  simp only [Option.some.injEq, Obj.cells.injEq] at h
  exact n2 h.2.1
theorem KeptT.cell {w w' : World} (h : KeptT w w') {b i : Nat} {cs : Array Value} {t : TypeId} {fr : Nat × Nat} {v : Value} (hk : w.heap[b]? = some (Obj.cells cs t fr)) (n1 : t ≠ 61) (n2 : t ≠ 66) (hv : w.cell? ⟨b, i, none⟩ = some v) : w'.cell? ⟨b, i, none⟩ = some v :=
  (World.cell?_of_block (a := ⟨b, i, none⟩) ((h b cs t fr hk n1 n2).trans hk.symm)).trans hv
def LowerPost (w : World) (pc : Int) (l : List InsN) (ad : Nat → Addr) (e : Ending) (w' : World) : Prop :=
  if regErr l = 0 then ∃ ov, e = .returned (.tuple #[.agg #[.int .u32 pc, .int .i64 (l.length : Int), ov], .nilIface]) ∧ w'.ownsRow w.heap.size 61 6 ov (lowAll pc l).length ((lowAll pc l).flatMap opC) ∧ Below w.heap.size w w'
  else e = .returned (.tuple #[.agg #[.int .u32 0, .int .i64 0, .slice none 0 0], errV ad (regErr l)]) ∧ Below w.heap.size w w'
set_option maxHeartbeats 4000000 in
theorem lower_bad {w : World} {g o cap : Nat} {l : List InsN} {pc : Int} {vp : Value} {ad : Nat → Addr} (hl : l.length ≤ 30) (h : InsAt w g o l) (hf : ∀ i ∈ l, i.Fits) (hS : Sents w ad) (hr : ¬ regErr l = 0) :
    Calls Tryz.prog 6 #[.agg #[.int .u32 pc, .slice (some ⟨g, o, none⟩) l.length cap, vp]] w fun e w' => LowerPost w pc l ad e w' := by
  have hb1 := (Below.refl w.heap.size w).alloc (Nat.le_refl _) (.cells #[.int .u32 pc, .slice (some ⟨g, o, none⟩) l.length cap, vp] 41)
  have hb2 := hb1.alloc hb1.size (.cells #[.int .u32 0, .int .i64 0, .slice none 0 0] 34)
  have HB2 := Lib.hid hb2
  have HRT : Hid (Calls Tryz.prog 16 #[.agg #[.int .u32 pc, .slice (some ⟨g, o, none⟩) l.length cap, vp]] ((w.alloc (.cells #[.int .u32 pc, .slice (some ⟨g, o, none⟩) l.length cap, vp] 41)).alloc (.cells #[.int .u32 0, .int .i64 0, .slice none 0 0] 34)) fun e w' => e = .returned (errI (ad (regErr l - 1))) ∧ Below ((w.alloc (.cells #[.int .u32 pc, .slice (some ⟨g, o, none⟩) l.length cap, vp] 41)).alloc (.cells #[.int .u32 0, .int .i64 0, .slice none 0 0] 34)).heap.size ((w.alloc (.cells #[.int .u32 pc, .slice (some ⟨g, o, none⟩) l.length cap, vp] 41)).alloc (.cells #[.int .u32 0, .int .i64 0, .slice none 0 0] 34)) w') := by
    refine Lib.hid ?_
    have hne : 0 < l.length ∨ l = [] := by
      rcases Nat.eq_zero_or_pos l.length with e | e
      · exact Or.inr (List.eq_nil_of_length_eq_zero e)
      · exact Or.inl e
    have hi : InsAt ((w.alloc (.cells #[.int .u32 pc, .slice (some ⟨g, o, none⟩) l.length cap, vp] 41)).alloc (.cells #[.int .u32 0, .int .i64 0, .slice none 0 0] 34)) g o l := by
      rcases hne with e | e
      · exact h.below hb2 e
      · subst e; exact ⟨fun j hj => absurd hj (Nat.not_lt_zero j)⟩
    have := right_any (cap := cap) (pc := pc) (vp := vp) hl hi hf (hS.below hb2)
    unfold errV at this
    rw [if_neg hr] at this
    exact this
  have HPO : Hid (∀ w', Below w.heap.size w w' → LowerPost w pc l ad (.returned (.tuple #[.agg #[.int .u32 0, .int .i64 0, .slice none 0 0], errI (ad (regErr l - 1))])) w') := by
    refine Lib.hid ?_
    intro w' hb
    unfold LowerPost
    rw [if_neg hr]
    refine ⟨?_, hb⟩
    unfold errV
    rw [if_neg hr]
  have HT : Hid (Tri3C ((w.alloc (.cells #[.int .u32 pc, .slice (some ⟨g, o, none⟩) l.length cap, vp] 41)).alloc (.cells #[.int .u32 0, .int .i64 0, .slice none 0 0] 34)) (w.heap.size + 1) (.int .u32 0) (.int .i64 0) (.slice none 0 0)) := by
    refine Lib.hid ?_
    have := heap_alloc_new (w.alloc (.cells #[.int .u32 pc, .slice (some ⟨g, o, none⟩) l.length cap, vp] 41)) (.cells #[.int .u32 0, .int .i64 0, .slice none 0 0] 34)
    have e : (w.alloc (.cells #[.int .u32 pc, .slice (some ⟨g, o, none⟩) l.length cap, vp] 41)).heap.size = w.heap.size + 1 := by simp
    rw [e] at this
    exact this
  have hl30 : (l.length : Int) ≤ 30 := by omega
  clear h hf hS hr hb1 hb2 hl
  go_enter Tryz.func6, Tryz.ntmps6
  go_wp2_with fail
  generalize (w.alloc (.cells #[.int .u32 pc, .slice (some ⟨g, o, none⟩) l.length cap, vp] 41)).alloc (.cells #[.int .u32 0, .int .i64 0, .slice none 0 0] 34) = W at *
  refine HRT.out.mono ?_
  rintro e w1 ⟨rfl, hb⟩
  have HT1 : Hid (Tri3C w1 (w.heap.size + 1) (.int .u32 0) (.int .i64 0) (.slice none 0 0)) := Lib.hid ((hb.block _ (Array.getElem?_eq_some_iff.1 HT.out).1).trans HT.out)
  have HB1 := Lib.hid (HB2.out.trans (hb.mono HB2.out.size))
  obtain ⟨t0, t1, t2, t3, t4, t5⟩ := Tri3C.cells HT1.out
  have HT2 := Lib.hid (Tri3C.fill HT1.out (.int .u32 0) (.int .i64 0) (.slice none 0 0))
  have HB3 := Lib.hid (below_fill3C HB1.out (b := w.heap.size + 1) (Nat.le_succ _) (.int .u32 0) (.int .i64 0) (.slice none 0 0))
  clear hb
  go_wp2
  change bodyPost _ _ _ _ _ (fill3C w1 (w.heap.size + 1) (.int .u32 0) (.int .i64 0) (.slice none 0 0))
  clear t0 t1 t2 t3 t4 t5
  generalize fill3C w1 (w.heap.size + 1) (.int .u32 0) (.int .i64 0) (.slice none 0 0) = W2 at *
  obtain ⟨t0, t1, t2, _⟩ := Tri3C.cells HT2.out
  exact bodyPost_ret (v := .tuple #[.agg #[.int .u32 0, .int .i64 0, .slice none 0 0], errI (ad (regErr l - 1))]) (by simp [results, Tryz.results6, go_sem, t0, t1, t2]) rfl (HPO.out _ HB3.out)
end Go.Proofs.YtlnefmgiiogcmaaGreatDoor
