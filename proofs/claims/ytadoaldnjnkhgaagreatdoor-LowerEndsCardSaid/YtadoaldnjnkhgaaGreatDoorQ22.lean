/- The walk of the document's sum of an instruction, shifts. Conditions: as each theorem states. -/
import Derived.Test.YtadoaldnjnkhgaaGreatDoorQ20
set_option linter.unusedVariables false
set_option linter.unusedSimpArgs false
namespace Go.Proofs.YtadoaldnjnkhgaaGreatDoor
open Go.RowKit
set_option maxHeartbeats 4000000 in
set_option maxRecDepth 100000 in
theorem sumD_1 {w : World} {sb S T D : Nat} {s : StF} {m : Int} (h : StB w sb s) (hR : RegsOK s.r) (hS : S < 32) (hT : T < 32) (hD : D < 32) (m0 : 0 ≤ m) (m1 : m < 4294967296) :
    Calls Tryz.prog 107 #[.pointer (some ⟨sb, 0, none⟩), insA 1 S T D m] w fun e w' => SumTo w sb s (updR s.r D (sumZ .shl (s.r T) m)) s.hi s.lo e w' := by
  have HC0 := Lib.hid (fun wx => (kindS_1 wx).mono (fun _ _ h => And.intro h.1 h.2.symm))
  have HC1 := Lib.hid (fun wx => (sumOf_shl (s.r T) m (hR T).1 (hR T).2 m0 m1 wx).mono (fun _ _ h => And.intro h.1 h.2.symm))
  generalize sumZ .shl (s.r T) m = z at HC1 ⊢
  have HF0 : InsB (w.alloc (.cells #[.int .i64 1, .int .i64 (S : Int), .int .i64 (T : Int), .int .i64 (D : Int), .int .u32 m] 61)) w.heap.size 1 S T D m := Five.new w _ _ _ _ _ _
  have hb := (Below.refl w.heap.size w).alloc (Nat.le_refl _) (.cells #[.int .i64 1, .int .i64 (S : Int), .int .i64 (T : Int), .int .i64 (D : Int), .int .u32 m] 61)
  have HS0 : StB (w.alloc (.cells #[.int .i64 1, .int .i64 (S : Int), .int .i64 (T : Int), .int .i64 (D : Int), .int .u32 m] 61)) sb s := h.of_block (hb.block sb h.lt)
  have HK0 := Lib.hid (Kept.of_below (S := fun k => k = sb) hb)
  have HLT := Lib.hid h.lt
  have HF := Lib.hid HF0
  have HS := Lib.hid HS0
  have HSZ := Lib.hid (show w.heap.size < (w.alloc (.cells #[.int .i64 1, .int .i64 (S : Int), .int .i64 (T : Int), .int .i64 (D : Int), .int .u32 m] 61)).heap.size by simp)
  have HN := Lib.hid (And.intro hS (And.intro hT hD))
  have HRR := Lib.hid hR
  have iS : (S : Int) < 32 := by omega
  have iT : (T : Int) < 32 := by omega
  have iD : (D : Int) < 32 := by omega
  clear h hb HF0 HS0 hS hT hD hR m0 m1
  go_enter Tryz.func107, Tryz.ntmps107
  go_wp2_with fail
  generalize w.alloc (.cells #[.int .i64 1, .int .i64 (S : Int), .int .i64 (T : Int), .int .i64 (D : Int), .int .u32 m] 61) = W at *
  obtain ⟨c0, c1, c2, c3, c4⟩ := Five.cells HF.out
  have hx := HS.out.reg HN.out.1
  go_still (by kernel_rfl)
  change Exit.then _ _ Exit.normal _ W.drew
  have HF1 := Lib.hid (InsB.drew HF.out)
  have HS1 := Lib.hid (StB.drew HS.out)
  have HK1 := Lib.hid (Kept.trans HK0.out (Kept.of_below (Below.refl _ W).drew))
  have HSZ1 : Hid (w.heap.size < W.drew.heap.size) := HSZ
  clear c0 c1 c2 c3 c4 hx HF HS HK0 HSZ
  generalize W.drew = W1 at *
  go_wp2_with fail
  obtain ⟨c0, c1, c2, c3, c4⟩ := Five.cells HF1.out
  have hy := HS1.out.reg HN.out.2.1
  go_still (by kernel_rfl)
  change Exit.then _ _ Exit.normal _ W1.drew
  have HF2 := Lib.hid (InsB.drew HF1.out)
  have HS2 := Lib.hid (StB.drew HS1.out)
  have HK2 := Lib.hid (Kept.trans HK1.out (Kept.of_below (Below.refl _ W1).drew))
  have HSZ2 : Hid (w.heap.size < W1.drew.heap.size) := HSZ1
  clear c0 c1 c2 c3 c4 hy HF1 HS1 HK1 HSZ1
  generalize W1.drew = W2 at *
  obtain ⟨c0, c1, c2, c3, c4⟩ := Five.cells HF2.out
  go_wp2_with fail
  have hz := HS2.out.reg HN.out.2.2
  have hzf := HS2.out.free D
  have HS3 := Lib.hid (StB.setReg (StB.drew HS2.out) HN.out.2.2 z)
  have HK3 := Lib.hid ((HK2.out.trans (Kept.of_below (Below.refl _ W2).drew)).trans (Kept.set W2.drew sb D (.int .u32 z)))
  refine wp_region_still_tail 13 (by kernel_rfl) (by kernel_rfl) ?_
  simp only [List.take_succ_cons, List.take_zero, List.drop_succ_cons, List.drop_zero]
  repeat still_step
  still_call (HC0.out _)
  repeat still_step
  still_call (HC1.out _)
  repeat still_step
  try refine wpStill_nil ?_
  change wpList _ _ _ _ _ W2.drew
  have hzd : W2.drew.cell? ⟨sb, D, none⟩ = some _ := hz
  have hzfd : W2.drew.frozen? ⟨sb, D, none⟩ = false := hzf
  clear hz hzf c0 c1 c2 c3 c4
  generalize W2.drew = W3 at *
  go_wp2
  go_ret
  exact ⟨rfl, HS3.out, HK3.out⟩
set_option maxHeartbeats 4000000 in
set_option maxRecDepth 100000 in
theorem sumD_2 {w : World} {sb S T D : Nat} {s : StF} {m : Int} (h : StB w sb s) (hR : RegsOK s.r) (hS : S < 32) (hT : T < 32) (hD : D < 32) (m0 : 0 ≤ m) (m1 : m < 4294967296) :
    Calls Tryz.prog 107 #[.pointer (some ⟨sb, 0, none⟩), insA 2 S T D m] w fun e w' => SumTo w sb s (updR s.r D (sumZ .shr (s.r T) m)) s.hi s.lo e w' := by
  have HC0 := Lib.hid (fun wx => (kindS_2 wx).mono (fun _ _ h => And.intro h.1 h.2.symm))
  have HC1 := Lib.hid (fun wx => (sumOf_shr (s.r T) m (hR T).1 (hR T).2 m0 m1 wx).mono (fun _ _ h => And.intro h.1 h.2.symm))
  generalize sumZ .shr (s.r T) m = z at HC1 ⊢
  have HF0 : InsB (w.alloc (.cells #[.int .i64 2, .int .i64 (S : Int), .int .i64 (T : Int), .int .i64 (D : Int), .int .u32 m] 61)) w.heap.size 2 S T D m := Five.new w _ _ _ _ _ _
  have hb := (Below.refl w.heap.size w).alloc (Nat.le_refl _) (.cells #[.int .i64 2, .int .i64 (S : Int), .int .i64 (T : Int), .int .i64 (D : Int), .int .u32 m] 61)
  have HS0 : StB (w.alloc (.cells #[.int .i64 2, .int .i64 (S : Int), .int .i64 (T : Int), .int .i64 (D : Int), .int .u32 m] 61)) sb s := h.of_block (hb.block sb h.lt)
  have HK0 := Lib.hid (Kept.of_below (S := fun k => k = sb) hb)
  have HLT := Lib.hid h.lt
  have HF := Lib.hid HF0
  have HS := Lib.hid HS0
  have HSZ := Lib.hid (show w.heap.size < (w.alloc (.cells #[.int .i64 2, .int .i64 (S : Int), .int .i64 (T : Int), .int .i64 (D : Int), .int .u32 m] 61)).heap.size by simp)
  have HN := Lib.hid (And.intro hS (And.intro hT hD))
  have HRR := Lib.hid hR
  have iS : (S : Int) < 32 := by omega
  have iT : (T : Int) < 32 := by omega
  have iD : (D : Int) < 32 := by omega
  clear h hb HF0 HS0 hS hT hD hR m0 m1
  go_enter Tryz.func107, Tryz.ntmps107
  go_wp2_with fail
  generalize w.alloc (.cells #[.int .i64 2, .int .i64 (S : Int), .int .i64 (T : Int), .int .i64 (D : Int), .int .u32 m] 61) = W at *
  obtain ⟨c0, c1, c2, c3, c4⟩ := Five.cells HF.out
  have hx := HS.out.reg HN.out.1
  go_still (by kernel_rfl)
  change Exit.then _ _ Exit.normal _ W.drew
  have HF1 := Lib.hid (InsB.drew HF.out)
  have HS1 := Lib.hid (StB.drew HS.out)
  have HK1 := Lib.hid (Kept.trans HK0.out (Kept.of_below (Below.refl _ W).drew))
  have HSZ1 : Hid (w.heap.size < W.drew.heap.size) := HSZ
  clear c0 c1 c2 c3 c4 hx HF HS HK0 HSZ
  generalize W.drew = W1 at *
  go_wp2_with fail
  obtain ⟨c0, c1, c2, c3, c4⟩ := Five.cells HF1.out
  have hy := HS1.out.reg HN.out.2.1
  go_still (by kernel_rfl)
  change Exit.then _ _ Exit.normal _ W1.drew
  have HF2 := Lib.hid (InsB.drew HF1.out)
  have HS2 := Lib.hid (StB.drew HS1.out)
  have HK2 := Lib.hid (Kept.trans HK1.out (Kept.of_below (Below.refl _ W1).drew))
  have HSZ2 : Hid (w.heap.size < W1.drew.heap.size) := HSZ1
  clear c0 c1 c2 c3 c4 hy HF1 HS1 HK1 HSZ1
  generalize W1.drew = W2 at *
  obtain ⟨c0, c1, c2, c3, c4⟩ := Five.cells HF2.out
  go_wp2_with fail
  have hz := HS2.out.reg HN.out.2.2
  have hzf := HS2.out.free D
  have HS3 := Lib.hid (StB.setReg (StB.drew HS2.out) HN.out.2.2 z)
  have HK3 := Lib.hid ((HK2.out.trans (Kept.of_below (Below.refl _ W2).drew)).trans (Kept.set W2.drew sb D (.int .u32 z)))
  refine wp_region_still_tail 13 (by kernel_rfl) (by kernel_rfl) ?_
  simp only [List.take_succ_cons, List.take_zero, List.drop_succ_cons, List.drop_zero]
  repeat still_step
  still_call (HC0.out _)
  repeat still_step
  still_call (HC1.out _)
  repeat still_step
  try refine wpStill_nil ?_
  change wpList _ _ _ _ _ W2.drew
  have hzd : W2.drew.cell? ⟨sb, D, none⟩ = some _ := hz
  have hzfd : W2.drew.frozen? ⟨sb, D, none⟩ = false := hzf
  clear hz hzf c0 c1 c2 c3 c4
  generalize W2.drew = W3 at *
  go_wp2
  go_ret
  exact ⟨rfl, HS3.out, HK3.out⟩
set_option maxHeartbeats 4000000 in
set_option maxRecDepth 100000 in
theorem sumD_3 {w : World} {sb S T D : Nat} {s : StF} {m : Int} (h : StB w sb s) (hR : RegsOK s.r) (hS : S < 32) (hT : T < 32) (hD : D < 32) (m0 : 0 ≤ m) (m1 : m < 4294967296) :
    Calls Tryz.prog 107 #[.pointer (some ⟨sb, 0, none⟩), insA 3 S T D m] w fun e w' => SumTo w sb s (updR s.r D (sumZ .sar (s.r T) m)) s.hi s.lo e w' := by
  have HC0 := Lib.hid (fun wx => (kindS_3 wx).mono (fun _ _ h => And.intro h.1 h.2.symm))
  have HC1 := Lib.hid (fun wx => (sumOf_sar (s.r T) m (hR T).1 (hR T).2 m0 m1 wx).mono (fun _ _ h => And.intro h.1 h.2.symm))
  generalize sumZ .sar (s.r T) m = z at HC1 ⊢
  have HF0 : InsB (w.alloc (.cells #[.int .i64 3, .int .i64 (S : Int), .int .i64 (T : Int), .int .i64 (D : Int), .int .u32 m] 61)) w.heap.size 3 S T D m := Five.new w _ _ _ _ _ _
  have hb := (Below.refl w.heap.size w).alloc (Nat.le_refl _) (.cells #[.int .i64 3, .int .i64 (S : Int), .int .i64 (T : Int), .int .i64 (D : Int), .int .u32 m] 61)
  have HS0 : StB (w.alloc (.cells #[.int .i64 3, .int .i64 (S : Int), .int .i64 (T : Int), .int .i64 (D : Int), .int .u32 m] 61)) sb s := h.of_block (hb.block sb h.lt)
  have HK0 := Lib.hid (Kept.of_below (S := fun k => k = sb) hb)
  have HLT := Lib.hid h.lt
  have HF := Lib.hid HF0
  have HS := Lib.hid HS0
  have HSZ := Lib.hid (show w.heap.size < (w.alloc (.cells #[.int .i64 3, .int .i64 (S : Int), .int .i64 (T : Int), .int .i64 (D : Int), .int .u32 m] 61)).heap.size by simp)
  have HN := Lib.hid (And.intro hS (And.intro hT hD))
  have HRR := Lib.hid hR
  have iS : (S : Int) < 32 := by omega
  have iT : (T : Int) < 32 := by omega
  have iD : (D : Int) < 32 := by omega
  clear h hb HF0 HS0 hS hT hD hR m0 m1
  go_enter Tryz.func107, Tryz.ntmps107
  go_wp2_with fail
  generalize w.alloc (.cells #[.int .i64 3, .int .i64 (S : Int), .int .i64 (T : Int), .int .i64 (D : Int), .int .u32 m] 61) = W at *
  obtain ⟨c0, c1, c2, c3, c4⟩ := Five.cells HF.out
  have hx := HS.out.reg HN.out.1
  go_still (by kernel_rfl)
  change Exit.then _ _ Exit.normal _ W.drew
  have HF1 := Lib.hid (InsB.drew HF.out)
  have HS1 := Lib.hid (StB.drew HS.out)
  have HK1 := Lib.hid (Kept.trans HK0.out (Kept.of_below (Below.refl _ W).drew))
  have HSZ1 : Hid (w.heap.size < W.drew.heap.size) := HSZ
  clear c0 c1 c2 c3 c4 hx HF HS HK0 HSZ
  generalize W.drew = W1 at *
  go_wp2_with fail
  obtain ⟨c0, c1, c2, c3, c4⟩ := Five.cells HF1.out
  have hy := HS1.out.reg HN.out.2.1
  go_still (by kernel_rfl)
  change Exit.then _ _ Exit.normal _ W1.drew
  have HF2 := Lib.hid (InsB.drew HF1.out)
  have HS2 := Lib.hid (StB.drew HS1.out)
  have HK2 := Lib.hid (Kept.trans HK1.out (Kept.of_below (Below.refl _ W1).drew))
  have HSZ2 : Hid (w.heap.size < W1.drew.heap.size) := HSZ1
  clear c0 c1 c2 c3 c4 hy HF1 HS1 HK1 HSZ1
  generalize W1.drew = W2 at *
  obtain ⟨c0, c1, c2, c3, c4⟩ := Five.cells HF2.out
  go_wp2_with fail
  have hz := HS2.out.reg HN.out.2.2
  have hzf := HS2.out.free D
  have HS3 := Lib.hid (StB.setReg (StB.drew HS2.out) HN.out.2.2 z)
  have HK3 := Lib.hid ((HK2.out.trans (Kept.of_below (Below.refl _ W2).drew)).trans (Kept.set W2.drew sb D (.int .u32 z)))
  refine wp_region_still_tail 13 (by kernel_rfl) (by kernel_rfl) ?_
  simp only [List.take_succ_cons, List.take_zero, List.drop_succ_cons, List.drop_zero]
  repeat still_step
  still_call (HC0.out _)
  repeat still_step
  still_call (HC1.out _)
  repeat still_step
  try refine wpStill_nil ?_
  change wpList _ _ _ _ _ W2.drew
  have hzd : W2.drew.cell? ⟨sb, D, none⟩ = some _ := hz
  have hzfd : W2.drew.frozen? ⟨sb, D, none⟩ = false := hzf
  clear hz hzf c0 c1 c2 c3 c4
  generalize W2.drew = W3 at *
  go_wp2
  go_ret
  exact ⟨rfl, HS3.out, HK3.out⟩
set_option maxHeartbeats 4000000 in
set_option maxRecDepth 100000 in
theorem sumD_4 {w : World} {sb S T D : Nat} {s : StF} {m : Int} (h : StB w sb s) (hR : RegsOK s.r) (hS : S < 32) (hT : T < 32) (hD : D < 32) (m0 : 0 ≤ m) (m1 : m < 4294967296) :
    Calls Tryz.prog 107 #[.pointer (some ⟨sb, 0, none⟩), insA 4 S T D m] w fun e w' => SumTo w sb s (updR s.r D (sumZ .shl (s.r T) (s.r S))) s.hi s.lo e w' := by
  have HC0 := Lib.hid (fun wx => (kindS_4 wx).mono (fun _ _ h => And.intro h.1 h.2.symm))
  have HC1 := Lib.hid (fun wx => (sumOf_shl (s.r T) (s.r S) (hR T).1 (hR T).2 (hR S).1 (hR S).2 wx).mono (fun _ _ h => And.intro h.1 h.2.symm))
  generalize sumZ .shl (s.r T) (s.r S) = z at HC1 ⊢
  have HF0 : InsB (w.alloc (.cells #[.int .i64 4, .int .i64 (S : Int), .int .i64 (T : Int), .int .i64 (D : Int), .int .u32 m] 61)) w.heap.size 4 S T D m := Five.new w _ _ _ _ _ _
  have hb := (Below.refl w.heap.size w).alloc (Nat.le_refl _) (.cells #[.int .i64 4, .int .i64 (S : Int), .int .i64 (T : Int), .int .i64 (D : Int), .int .u32 m] 61)
  have HS0 : StB (w.alloc (.cells #[.int .i64 4, .int .i64 (S : Int), .int .i64 (T : Int), .int .i64 (D : Int), .int .u32 m] 61)) sb s := h.of_block (hb.block sb h.lt)
  have HK0 := Lib.hid (Kept.of_below (S := fun k => k = sb) hb)
  have HLT := Lib.hid h.lt
  have HF := Lib.hid HF0
  have HS := Lib.hid HS0
  have HSZ := Lib.hid (show w.heap.size < (w.alloc (.cells #[.int .i64 4, .int .i64 (S : Int), .int .i64 (T : Int), .int .i64 (D : Int), .int .u32 m] 61)).heap.size by simp)
  have HN := Lib.hid (And.intro hS (And.intro hT hD))
  have HRR := Lib.hid hR
  have iS : (S : Int) < 32 := by omega
  have iT : (T : Int) < 32 := by omega
  have iD : (D : Int) < 32 := by omega
  clear h hb HF0 HS0 hS hT hD hR m0 m1
  go_enter Tryz.func107, Tryz.ntmps107
  go_wp2_with fail
  generalize w.alloc (.cells #[.int .i64 4, .int .i64 (S : Int), .int .i64 (T : Int), .int .i64 (D : Int), .int .u32 m] 61) = W at *
  obtain ⟨c0, c1, c2, c3, c4⟩ := Five.cells HF.out
  have hx := HS.out.reg HN.out.1
  go_still (by kernel_rfl)
  change Exit.then _ _ Exit.normal _ W.drew
  have HF1 := Lib.hid (InsB.drew HF.out)
  have HS1 := Lib.hid (StB.drew HS.out)
  have HK1 := Lib.hid (Kept.trans HK0.out (Kept.of_below (Below.refl _ W).drew))
  have HSZ1 : Hid (w.heap.size < W.drew.heap.size) := HSZ
  clear c0 c1 c2 c3 c4 hx HF HS HK0 HSZ
  generalize W.drew = W1 at *
  go_wp2_with fail
  obtain ⟨c0, c1, c2, c3, c4⟩ := Five.cells HF1.out
  have hy := HS1.out.reg HN.out.2.1
  go_still (by kernel_rfl)
  change Exit.then _ _ Exit.normal _ W1.drew
  have HF2 := Lib.hid (InsB.drew HF1.out)
  have HS2 := Lib.hid (StB.drew HS1.out)
  have HK2 := Lib.hid (Kept.trans HK1.out (Kept.of_below (Below.refl _ W1).drew))
  have HSZ2 : Hid (w.heap.size < W1.drew.heap.size) := HSZ1
  clear c0 c1 c2 c3 c4 hy HF1 HS1 HK1 HSZ1
  generalize W1.drew = W2 at *
  obtain ⟨c0, c1, c2, c3, c4⟩ := Five.cells HF2.out
  go_wp2_with fail
  have hz := HS2.out.reg HN.out.2.2
  have hzf := HS2.out.free D
  have HS3 := Lib.hid (StB.setReg (StB.drew HS2.out) HN.out.2.2 z)
  have HK3 := Lib.hid ((HK2.out.trans (Kept.of_below (Below.refl _ W2).drew)).trans (Kept.set W2.drew sb D (.int .u32 z)))
  refine wp_region_still_tail 12 (by kernel_rfl) (by kernel_rfl) ?_
  simp only [List.take_succ_cons, List.take_zero, List.drop_succ_cons, List.drop_zero]
  repeat still_step
  still_call (HC0.out _)
  repeat still_step
  still_call (HC1.out _)
  repeat still_step
  try refine wpStill_nil ?_
  change wpList _ _ _ _ _ W2.drew
  have hzd : W2.drew.cell? ⟨sb, D, none⟩ = some _ := hz
  have hzfd : W2.drew.frozen? ⟨sb, D, none⟩ = false := hzf
  clear hz hzf c0 c1 c2 c3 c4
  generalize W2.drew = W3 at *
  go_wp2
  go_ret
  exact ⟨rfl, HS3.out, HK3.out⟩
set_option maxHeartbeats 4000000 in
set_option maxRecDepth 100000 in
theorem sumD_5 {w : World} {sb S T D : Nat} {s : StF} {m : Int} (h : StB w sb s) (hR : RegsOK s.r) (hS : S < 32) (hT : T < 32) (hD : D < 32) (m0 : 0 ≤ m) (m1 : m < 4294967296) :
    Calls Tryz.prog 107 #[.pointer (some ⟨sb, 0, none⟩), insA 5 S T D m] w fun e w' => SumTo w sb s (updR s.r D (sumZ .shr (s.r T) (s.r S))) s.hi s.lo e w' := by
  have HC0 := Lib.hid (fun wx => (kindS_5 wx).mono (fun _ _ h => And.intro h.1 h.2.symm))
  have HC1 := Lib.hid (fun wx => (sumOf_shr (s.r T) (s.r S) (hR T).1 (hR T).2 (hR S).1 (hR S).2 wx).mono (fun _ _ h => And.intro h.1 h.2.symm))
  generalize sumZ .shr (s.r T) (s.r S) = z at HC1 ⊢
  have HF0 : InsB (w.alloc (.cells #[.int .i64 5, .int .i64 (S : Int), .int .i64 (T : Int), .int .i64 (D : Int), .int .u32 m] 61)) w.heap.size 5 S T D m := Five.new w _ _ _ _ _ _
  have hb := (Below.refl w.heap.size w).alloc (Nat.le_refl _) (.cells #[.int .i64 5, .int .i64 (S : Int), .int .i64 (T : Int), .int .i64 (D : Int), .int .u32 m] 61)
  have HS0 : StB (w.alloc (.cells #[.int .i64 5, .int .i64 (S : Int), .int .i64 (T : Int), .int .i64 (D : Int), .int .u32 m] 61)) sb s := h.of_block (hb.block sb h.lt)
  have HK0 := Lib.hid (Kept.of_below (S := fun k => k = sb) hb)
  have HLT := Lib.hid h.lt
  have HF := Lib.hid HF0
  have HS := Lib.hid HS0
  have HSZ := Lib.hid (show w.heap.size < (w.alloc (.cells #[.int .i64 5, .int .i64 (S : Int), .int .i64 (T : Int), .int .i64 (D : Int), .int .u32 m] 61)).heap.size by simp)
  have HN := Lib.hid (And.intro hS (And.intro hT hD))
  have HRR := Lib.hid hR
  have iS : (S : Int) < 32 := by omega
  have iT : (T : Int) < 32 := by omega
  have iD : (D : Int) < 32 := by omega
  clear h hb HF0 HS0 hS hT hD hR m0 m1
  go_enter Tryz.func107, Tryz.ntmps107
  go_wp2_with fail
  generalize w.alloc (.cells #[.int .i64 5, .int .i64 (S : Int), .int .i64 (T : Int), .int .i64 (D : Int), .int .u32 m] 61) = W at *
  obtain ⟨c0, c1, c2, c3, c4⟩ := Five.cells HF.out
  have hx := HS.out.reg HN.out.1
  go_still (by kernel_rfl)
  change Exit.then _ _ Exit.normal _ W.drew
  have HF1 := Lib.hid (InsB.drew HF.out)
  have HS1 := Lib.hid (StB.drew HS.out)
  have HK1 := Lib.hid (Kept.trans HK0.out (Kept.of_below (Below.refl _ W).drew))
  have HSZ1 : Hid (w.heap.size < W.drew.heap.size) := HSZ
  clear c0 c1 c2 c3 c4 hx HF HS HK0 HSZ
  generalize W.drew = W1 at *
  go_wp2_with fail
  obtain ⟨c0, c1, c2, c3, c4⟩ := Five.cells HF1.out
  have hy := HS1.out.reg HN.out.2.1
  go_still (by kernel_rfl)
  change Exit.then _ _ Exit.normal _ W1.drew
  have HF2 := Lib.hid (InsB.drew HF1.out)
  have HS2 := Lib.hid (StB.drew HS1.out)
  have HK2 := Lib.hid (Kept.trans HK1.out (Kept.of_below (Below.refl _ W1).drew))
  have HSZ2 : Hid (w.heap.size < W1.drew.heap.size) := HSZ1
  clear c0 c1 c2 c3 c4 hy HF1 HS1 HK1 HSZ1
  generalize W1.drew = W2 at *
  obtain ⟨c0, c1, c2, c3, c4⟩ := Five.cells HF2.out
  go_wp2_with fail
  have hz := HS2.out.reg HN.out.2.2
  have hzf := HS2.out.free D
  have HS3 := Lib.hid (StB.setReg (StB.drew HS2.out) HN.out.2.2 z)
  have HK3 := Lib.hid ((HK2.out.trans (Kept.of_below (Below.refl _ W2).drew)).trans (Kept.set W2.drew sb D (.int .u32 z)))
  refine wp_region_still_tail 12 (by kernel_rfl) (by kernel_rfl) ?_
  simp only [List.take_succ_cons, List.take_zero, List.drop_succ_cons, List.drop_zero]
  repeat still_step
  still_call (HC0.out _)
  repeat still_step
  still_call (HC1.out _)
  repeat still_step
  try refine wpStill_nil ?_
  change wpList _ _ _ _ _ W2.drew
  have hzd : W2.drew.cell? ⟨sb, D, none⟩ = some _ := hz
  have hzfd : W2.drew.frozen? ⟨sb, D, none⟩ = false := hzf
  clear hz hzf c0 c1 c2 c3 c4
  generalize W2.drew = W3 at *
  go_wp2
  go_ret
  exact ⟨rfl, HS3.out, HK3.out⟩
set_option maxHeartbeats 4000000 in
set_option maxRecDepth 100000 in
theorem sumD_6 {w : World} {sb S T D : Nat} {s : StF} {m : Int} (h : StB w sb s) (hR : RegsOK s.r) (hS : S < 32) (hT : T < 32) (hD : D < 32) (m0 : 0 ≤ m) (m1 : m < 4294967296) :
    Calls Tryz.prog 107 #[.pointer (some ⟨sb, 0, none⟩), insA 6 S T D m] w fun e w' => SumTo w sb s (updR s.r D (sumZ .sar (s.r T) (s.r S))) s.hi s.lo e w' := by
  have HC0 := Lib.hid (fun wx => (kindS_6 wx).mono (fun _ _ h => And.intro h.1 h.2.symm))
  have HC1 := Lib.hid (fun wx => (sumOf_sar (s.r T) (s.r S) (hR T).1 (hR T).2 (hR S).1 (hR S).2 wx).mono (fun _ _ h => And.intro h.1 h.2.symm))
  generalize sumZ .sar (s.r T) (s.r S) = z at HC1 ⊢
  have HF0 : InsB (w.alloc (.cells #[.int .i64 6, .int .i64 (S : Int), .int .i64 (T : Int), .int .i64 (D : Int), .int .u32 m] 61)) w.heap.size 6 S T D m := Five.new w _ _ _ _ _ _
  have hb := (Below.refl w.heap.size w).alloc (Nat.le_refl _) (.cells #[.int .i64 6, .int .i64 (S : Int), .int .i64 (T : Int), .int .i64 (D : Int), .int .u32 m] 61)
  have HS0 : StB (w.alloc (.cells #[.int .i64 6, .int .i64 (S : Int), .int .i64 (T : Int), .int .i64 (D : Int), .int .u32 m] 61)) sb s := h.of_block (hb.block sb h.lt)
  have HK0 := Lib.hid (Kept.of_below (S := fun k => k = sb) hb)
  have HLT := Lib.hid h.lt
  have HF := Lib.hid HF0
  have HS := Lib.hid HS0
  have HSZ := Lib.hid (show w.heap.size < (w.alloc (.cells #[.int .i64 6, .int .i64 (S : Int), .int .i64 (T : Int), .int .i64 (D : Int), .int .u32 m] 61)).heap.size by simp)
  have HN := Lib.hid (And.intro hS (And.intro hT hD))
  have HRR := Lib.hid hR
  have iS : (S : Int) < 32 := by omega
  have iT : (T : Int) < 32 := by omega
  have iD : (D : Int) < 32 := by omega
  clear h hb HF0 HS0 hS hT hD hR m0 m1
  go_enter Tryz.func107, Tryz.ntmps107
  go_wp2_with fail
  generalize w.alloc (.cells #[.int .i64 6, .int .i64 (S : Int), .int .i64 (T : Int), .int .i64 (D : Int), .int .u32 m] 61) = W at *
  obtain ⟨c0, c1, c2, c3, c4⟩ := Five.cells HF.out
  have hx := HS.out.reg HN.out.1
  go_still (by kernel_rfl)
  change Exit.then _ _ Exit.normal _ W.drew
  have HF1 := Lib.hid (InsB.drew HF.out)
  have HS1 := Lib.hid (StB.drew HS.out)
  have HK1 := Lib.hid (Kept.trans HK0.out (Kept.of_below (Below.refl _ W).drew))
  have HSZ1 : Hid (w.heap.size < W.drew.heap.size) := HSZ
  clear c0 c1 c2 c3 c4 hx HF HS HK0 HSZ
  generalize W.drew = W1 at *
  go_wp2_with fail
  obtain ⟨c0, c1, c2, c3, c4⟩ := Five.cells HF1.out
  have hy := HS1.out.reg HN.out.2.1
  go_still (by kernel_rfl)
  change Exit.then _ _ Exit.normal _ W1.drew
  have HF2 := Lib.hid (InsB.drew HF1.out)
  have HS2 := Lib.hid (StB.drew HS1.out)
  have HK2 := Lib.hid (Kept.trans HK1.out (Kept.of_below (Below.refl _ W1).drew))
  have HSZ2 : Hid (w.heap.size < W1.drew.heap.size) := HSZ1
  clear c0 c1 c2 c3 c4 hy HF1 HS1 HK1 HSZ1
  generalize W1.drew = W2 at *
  obtain ⟨c0, c1, c2, c3, c4⟩ := Five.cells HF2.out
  go_wp2_with fail
  have hz := HS2.out.reg HN.out.2.2
  have hzf := HS2.out.free D
  have HS3 := Lib.hid (StB.setReg (StB.drew HS2.out) HN.out.2.2 z)
  have HK3 := Lib.hid ((HK2.out.trans (Kept.of_below (Below.refl _ W2).drew)).trans (Kept.set W2.drew sb D (.int .u32 z)))
  refine wp_region_still_tail 12 (by kernel_rfl) (by kernel_rfl) ?_
  simp only [List.take_succ_cons, List.take_zero, List.drop_succ_cons, List.drop_zero]
  repeat still_step
  still_call (HC0.out _)
  repeat still_step
  still_call (HC1.out _)
  repeat still_step
  try refine wpStill_nil ?_
  change wpList _ _ _ _ _ W2.drew
  have hzd : W2.drew.cell? ⟨sb, D, none⟩ = some _ := hz
  have hzfd : W2.drew.frozen? ⟨sb, D, none⟩ = false := hzf
  clear hz hzf c0 c1 c2 c3 c4
  generalize W2.drew = W3 at *
  go_wp2
  go_ret
  exact ⟨rfl, HS3.out, HK3.out⟩
end Go.Proofs.YtadoaldnjnkhgaaGreatDoor
