/- The walk of ir's sums, op by op. Conditions: as each theorem states. -/
import Derived.Test.YtlnefmgiiogcmaaGreatDoorQ33
set_option linter.unusedVariables false
set_option linter.unusedSimpArgs false
namespace Go.Proofs.YtlnefmgiiogcmaaGreatDoor
open Go.RowKit
set_option maxHeartbeats 4000000
section
variable {w0 w : World} {lb : Nat} {pc : Int} {n : Nat} {ov : Value} {ops : List OpN}
theorem sumsK (h : LwW w0 w lb pc n ov ops) (hl : ops.length < 900) (op : Nat) (hop : op ∈ [20, 22, 23, 24, 25, 26, 27, 28]) (s t d : Nat) (m : Int) (hm0 : 0 ≤ m) (hm1 : m < 65536) :
    Calls Tryz.prog 42 #[.pointer (some ⟨lb, 0, none⟩), insA op s t d m, .int .u32 (wideS m)] w fun e w' => Adds w0 w lb pc n (ops ++ lowIns op s t d m n) e w' := by
  have HLN := Lib.hid hl
  have HL0 := Lib.hid (h.box op s t d m)
  have HLO : Hid (lowIns op s t d m n = sumOp (sumK op) d s t n) := by
    simp only [List.mem_cons, List.not_mem_nil, or_false] at hop
    rcases hop with rfl | rfl | rfl | rfl | rfl | rfl | rfl | rfl <;> rfl
  have HKN := Lib.hid (fun wx => kinds_any op (by simp only [List.mem_cons, List.not_mem_nil, or_false] at hop ⊢; omega) wx)
  obtain ⟨kt, hkt⟩ : ∃ kt, bsl (sumK op).text = kt := ⟨_, rfl⟩
  rw [hkt] at HKN
  have HDS := Lib.hid (fun wx (hb : Below (boxW w op s t d m).heap.size (boxW w op s t d m) wx) => adds_after hb (sum_any (HL0.out.trans hb) (by have := HLN.out; omega) (sumK op) d s t))
  rw [hkt] at HDS
  clear hkt
  have hts : ((op : Int) == 42) = false ∧ ((op : Int) == 1) = false ∧ ((op : Int) == 2) = false ∧ ((op : Int) == 3) = false ∧ ((op : Int) == 4) = false ∧ ((op : Int) == 5) = false ∧ ((op : Int) == 6) = false ∧ ((op : Int) == 15) = false ∧ ((op : Int) == 16) = false ∧ ((op : Int) == 17) = false ∧ ((op : Int) == 18) = false ∧ ((op : Int) == 11) = false ∧ ((op : Int) == 13) = false ∧ ((op : Int) == 12) = false ∧ ((op : Int) == 14) = false ∧ ((op : Int) == 39) = false ∧ ((op : Int) == 40) = false ∧ ((op : Int) == 41) = false ∧ ((op : Int) == 35) = false ∧ ((op : Int) == 36) = false ∧ ((op : Int) == 37) = false ∧ ((op : Int) == 38) = false ∧ ((op : Int) == 19) = false ∧ ((op : Int) == 21) = false := by
    simp only [List.mem_cons, List.not_mem_nil, or_false] at hop
    rcases hop with rfl | rfl | rfl | rfl | rfl | rfl | rfl | rfl <;> decide
  clear hop
  obtain ⟨t42, t1, t2, t3, t4, t5, t6, t15, t16, t17, t18, t11, t13, t12, t14, t39, t40, t41, t35, t36, t37, t38, t19, t21⟩ := hts
  obtain ⟨im, him⟩ : ∃ im, wideS m = im := ⟨_, rfl⟩
  rw [him]
  have HIM := Lib.hid him
  clear him
  clear h hl
  go_enter Tryz.func42, Tryz.ntmps42
  go_wp2_with fail
  go_region_with (first | (go_at_call 71; refine (HKN.out _).mono ?_; rintro e w3 ⟨rfl, rfl⟩) | (go_at_call 70; refine (HDS.out _ (by first | exact Below.refl _ _ | exact blw_drewN (Below.refl _ _) _ | exact (Below.refl _ _).drew)).mono ?_; rintro e w4 ⟨rfl, hK4, ov4, hL4⟩))
  all_goals
    have HL4 := Lib.hid hL4
    have HK4 := Lib.hid hK4
    clear hL4 hK4
    go_wp2
    go_end0
    exact ⟨rfl, boxW.kept HK4.out, ov4, by rw [HLO.out]; exact HL4.out⟩
end
end Go.Proofs.YtlnefmgiiogcmaaGreatDoor
