/- The walk of ir's sums, op by op. Conditions: as each theorem states. -/
import Derived.Test.YtlnefmgiiogcmaaGreatDoorQ33
set_option linter.unusedVariables false
set_option linter.unusedSimpArgs false
namespace Go.Proofs.YtlnefmgiiogcmaaGreatDoor
open Go.RowKit
set_option maxHeartbeats 4000000
section
variable {w0 w : World} {lb : Nat} {pc : Int} {n : Nat} {ov : Value} {ops : List OpN}
theorem sums1 (h : LwW w0 w lb pc n ov ops) (hl : ops.length < 900) (s t d : Nat) (m : Int) (hm0 : 0 ≤ m) (hm1 : m < 65536) :
    Calls Tryz.prog 42 #[.pointer (some ⟨lb, 0, none⟩), insA 1 s t d m, .int .u32 (wideS m)] w fun e w' => Adds w0 w lb pc n (ops ++ lowIns 1 s t d m n) e w' := by
  have HLN := Lib.hid hl
  have HF : InsB (boxW w 1 s t d m) w.heap.size 1 s t d m := Five.new w _ _ _ _ _ _
  have HD := Lib.hid (set_any (h.box 1 s t d m) (by omega) 34 m)
  have HKN := Lib.hid (fun wx => kinds_any 1 (by decide) wx)
  obtain ⟨kt, hkt⟩ : ∃ kt, bsl (sumK 1).text = kt := ⟨_, rfl⟩
  rw [hkt] at HKN
  obtain ⟨im, him⟩ : ∃ im, wideS m = im := ⟨_, rfl⟩
  rw [him]
  have HIM := Lib.hid him
  clear him
  clear h hl
  go_enter Tryz.func42, Tryz.ntmps42
  go_wp2_with fail
  refine HD.out.mono ?_
  rintro e w1 ⟨rfl, hK, ov1, hL⟩
  have HF1 := HF.kept hK
  obtain ⟨c0, c1, c2, c3, c4⟩ := Five.cells HF1
  have HK := Lib.hid hK
  have HDS := Lib.hid (fun wx (hb : Below w1.heap.size w1 wx) => adds_after hb (sum_any (hL.trans hb) (by rw [List.length_append]; have := HLN.out; have := setOp_len 34 m n; omega) (sumK 1) d t 34))
  rw [hkt] at HDS
  clear hL hK hkt HF1
  go_wp2_with fail
  go_region_with (first | (go_at_call 71; refine (HKN.out _).mono ?_; rintro e w3 ⟨rfl, rfl⟩) | (go_at_call 70; refine (HDS.out _ (by first | exact Below.refl _ _ | exact blw_drewN (Below.refl _ _) _ | exact (Below.refl _ _).drew)).mono ?_; rintro e w4 ⟨rfl, hK4, ov4, hL4⟩))
  all_goals
    have HL4 := Lib.hid hL4
    have HK4 := Lib.hid hK4
    clear hL4 hK4
    go_wp2
    go_end0
    exact ⟨rfl, boxW.kept (HK.out.trans HK4.out), ov4, by have := HL4.out; rw [List.append_assoc] at this; exact this⟩
theorem sums2 (h : LwW w0 w lb pc n ov ops) (hl : ops.length < 900) (s t d : Nat) (m : Int) (hm0 : 0 ≤ m) (hm1 : m < 65536) :
    Calls Tryz.prog 42 #[.pointer (some ⟨lb, 0, none⟩), insA 2 s t d m, .int .u32 (wideS m)] w fun e w' => Adds w0 w lb pc n (ops ++ lowIns 2 s t d m n) e w' := by
  have HLN := Lib.hid hl
  have HF : InsB (boxW w 2 s t d m) w.heap.size 2 s t d m := Five.new w _ _ _ _ _ _
  have HD := Lib.hid (set_any (h.box 2 s t d m) (by omega) 34 m)
  have HKN := Lib.hid (fun wx => kinds_any 2 (by decide) wx)
  obtain ⟨kt, hkt⟩ : ∃ kt, bsl (sumK 2).text = kt := ⟨_, rfl⟩
  rw [hkt] at HKN
  obtain ⟨im, him⟩ : ∃ im, wideS m = im := ⟨_, rfl⟩
  rw [him]
  have HIM := Lib.hid him
  clear him
  clear h hl
  go_enter Tryz.func42, Tryz.ntmps42
  go_wp2_with fail
  refine HD.out.mono ?_
  rintro e w1 ⟨rfl, hK, ov1, hL⟩
  have HF1 := HF.kept hK
  obtain ⟨c0, c1, c2, c3, c4⟩ := Five.cells HF1
  have HK := Lib.hid hK
  have HDS := Lib.hid (fun wx (hb : Below w1.heap.size w1 wx) => adds_after hb (sum_any (hL.trans hb) (by rw [List.length_append]; have := HLN.out; have := setOp_len 34 m n; omega) (sumK 2) d t 34))
  rw [hkt] at HDS
  clear hL hK hkt HF1
  go_wp2_with fail
  go_region_with (first | (go_at_call 71; refine (HKN.out _).mono ?_; rintro e w3 ⟨rfl, rfl⟩) | (go_at_call 70; refine (HDS.out _ (by first | exact Below.refl _ _ | exact blw_drewN (Below.refl _ _) _ | exact (Below.refl _ _).drew)).mono ?_; rintro e w4 ⟨rfl, hK4, ov4, hL4⟩))
  all_goals
    have HL4 := Lib.hid hL4
    have HK4 := Lib.hid hK4
    clear hL4 hK4
    go_wp2
    go_end0
    exact ⟨rfl, boxW.kept (HK.out.trans HK4.out), ov4, by have := HL4.out; rw [List.append_assoc] at this; exact this⟩
theorem sums3 (h : LwW w0 w lb pc n ov ops) (hl : ops.length < 900) (s t d : Nat) (m : Int) (hm0 : 0 ≤ m) (hm1 : m < 65536) :
    Calls Tryz.prog 42 #[.pointer (some ⟨lb, 0, none⟩), insA 3 s t d m, .int .u32 (wideS m)] w fun e w' => Adds w0 w lb pc n (ops ++ lowIns 3 s t d m n) e w' := by
  have HLN := Lib.hid hl
  have HF : InsB (boxW w 3 s t d m) w.heap.size 3 s t d m := Five.new w _ _ _ _ _ _
  have HD := Lib.hid (set_any (h.box 3 s t d m) (by omega) 34 m)
  have HKN := Lib.hid (fun wx => kinds_any 3 (by decide) wx)
  obtain ⟨kt, hkt⟩ : ∃ kt, bsl (sumK 3).text = kt := ⟨_, rfl⟩
  rw [hkt] at HKN
  obtain ⟨im, him⟩ : ∃ im, wideS m = im := ⟨_, rfl⟩
  rw [him]
  have HIM := Lib.hid him
  clear him
  clear h hl
  go_enter Tryz.func42, Tryz.ntmps42
  go_wp2_with fail
  refine HD.out.mono ?_
  rintro e w1 ⟨rfl, hK, ov1, hL⟩
  have HF1 := HF.kept hK
  obtain ⟨c0, c1, c2, c3, c4⟩ := Five.cells HF1
  have HK := Lib.hid hK
  have HDS := Lib.hid (fun wx (hb : Below w1.heap.size w1 wx) => adds_after hb (sum_any (hL.trans hb) (by rw [List.length_append]; have := HLN.out; have := setOp_len 34 m n; omega) (sumK 3) d t 34))
  rw [hkt] at HDS
  clear hL hK hkt HF1
  go_wp2_with fail
  go_region_with (first | (go_at_call 71; refine (HKN.out _).mono ?_; rintro e w3 ⟨rfl, rfl⟩) | (go_at_call 70; refine (HDS.out _ (by first | exact Below.refl _ _ | exact blw_drewN (Below.refl _ _) _ | exact (Below.refl _ _).drew)).mono ?_; rintro e w4 ⟨rfl, hK4, ov4, hL4⟩))
  all_goals
    have HL4 := Lib.hid hL4
    have HK4 := Lib.hid hK4
    clear hL4 hK4
    go_wp2
    go_end0
    exact ⟨rfl, boxW.kept (HK.out.trans HK4.out), ov4, by have := HL4.out; rw [List.append_assoc] at this; exact this⟩
end
end Go.Proofs.YtlnefmgiiogcmaaGreatDoor
