/- The walk of ir's sums, op by op. Conditions: as each theorem states. -/
import Derived.Test.YtlnefmgiiogcmaaGreatDoorQ33
set_option linter.unusedVariables false
set_option linter.unusedSimpArgs false
namespace Go.Proofs.YtlnefmgiiogcmaaGreatDoor
open Go.RowKit
set_option maxHeartbeats 4000000
section
variable {w0 w : World} {lb : Nat} {pc : Int} {n : Nat} {ov : Value} {ops : List OpN}
theorem sums4 (h : LwW w0 w lb pc n ov ops) (hl : ops.length < 900) (s t d : Nat) (m : Int) (hm0 : 0 ≤ m) (hm1 : m < 65536) :
    Calls Tryz.prog 42 #[.pointer (some ⟨lb, 0, none⟩), insA 4 s t d m, .int .u32 (wideS m)] w fun e w' => Adds w0 w lb pc n (ops ++ lowIns 4 s t d m n) e w' := by
  have HLN := Lib.hid hl
  have HL0 := Lib.hid (h.box 4 s t d m)
  have HKN := Lib.hid (fun wx => kinds_any 4 (by decide) wx)
  obtain ⟨kt, hkt⟩ : ∃ kt, bsl (sumK 4).text = kt := ⟨_, rfl⟩
  rw [hkt] at HKN
  have HDS := Lib.hid (fun wx (hb : Below (boxW w 4 s t d m).heap.size (boxW w 4 s t d m) wx) => adds_after hb (sum_any (HL0.out.trans hb) (by have := HLN.out; omega) (sumK 4) d t s))
  rw [hkt] at HDS
  clear hkt
  obtain ⟨im, him⟩ : ∃ im, wideS m = im := ⟨_, rfl⟩
  rw [him]
  have HIM := Lib.hid him
  clear him
  clear h hl
  go_enter Tryz.func42, Tryz.ntmps42
  go_wp2_with fail
  go_region_with (first | (go_at_call 71; refine (HKN.out _).mono ?_; rintro e w3 ⟨rfl, rfl⟩) | (go_at_call 70; refine (HDS.out _ (by first | exact Below.refl _ _ | exact blw_drewN (Below.refl _ _) _ | exact (Below.refl _ _).drew)).mono ?_; rintro e w4 ⟨rfl, hK4, ov4, hL4⟩))
  all_goals
    have HL4 := Lib.hid hL4
    have HK4 := Lib.hid hK4
    clear hL4 hK4
    go_wp2
    go_end0
    exact ⟨rfl, boxW.kept HK4.out, ov4, HL4.out⟩
end
end Go.Proofs.YtlnefmgiiogcmaaGreatDoor
