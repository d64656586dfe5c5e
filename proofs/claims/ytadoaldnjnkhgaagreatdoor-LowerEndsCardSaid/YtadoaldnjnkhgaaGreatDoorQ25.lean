/- The walk of the document's sum of an instruction, sums with a number. Conditions: as each theorem states. -/
import Derived.Test.YtadoaldnjnkhgaaGreatDoorQ20
set_option linter.unusedVariables false
set_option linter.unusedSimpArgs false
namespace Go.Proofs.YtadoaldnjnkhgaaGreatDoor
open Go.RowKit
set_option maxHeartbeats 4000000 in
set_option maxRecDepth 100000 in
theorem sumD_35 {w : World} {sb S T D : Nat} {s : StF} {m : Int} (h : StB w sb s) (hR : RegsOK s.r) (hS : S < 32) (hT : T < 32) (hD : D < 32) (m0 : 0 ≤ m) (m1 : m < 4294967296) :
    Calls Tryz.prog 107 #[.pointer (some ⟨sb, 0, none⟩), insA 35 S T D m] w fun e w' => if fitsZ (wrap32 (s.r S) + wrap32 (wideS m)) = true then SumTo w sb s (updR s.r T (sumZ .add (s.r S) (wideS m))) s.hi s.lo e w' else SumOv w sb s e w' := by
  have HC0 := Lib.hid (fun wx => (kindS_35 wx).mono (fun _ _ h => And.intro h.1 h.2.symm))
  have HC1 := Lib.hid (fun wx => (sumOf_add (s.r S) (wideS m) (hR S).1 (hR S).2 (wideS_ok m).1 (wideS_ok m).2 wx).mono (fun _ _ h => And.intro h.1 h.2.symm))
  have HC2 := Lib.hid (fun wx => signed_val (s.r S) (hR S).1 (hR S).2 wx)
  have HC3 := Lib.hid (fun wx => signed_val (wideS m) (wideS_ok m).1 (wideS_ok m).2 wx)
  have HC4 := Lib.hid (fun wx => isSigned_any (wrap32 (s.r S) + wrap32 (wideS m)) wx)
  have HC5 := Lib.hid (fun wx => immOf_any 35 S T D m m0 m1 wx)
  have r0 := wrap32_range (s.r S)
  have r1 := wrap32_range (wideS m)
  have hw : IntKind.i64.wrap (wrap32 (s.r S) + wrap32 (wideS m)) = wrap32 (s.r S) + wrap32 (wideS m) := IntWalk.i64_in _ ⟨by omega, by omega⟩
  clear r0 r1
  generalize sumZ .add (s.r S) (wideS m) = z at HC1 ⊢
  generalize wrap32 (s.r S) = p at *
  generalize wrap32 (wideS m) = q at *
  generalize wideS m = im at *
  cases hf : fitsZ (p + q) with
  | true =>
    rw [hf] at HC4
    show Calls _ _ _ _ fun e w' => SumTo w sb s (updR s.r T z) s.hi s.lo e w'
    clear hf
    have HF0 : InsB (w.alloc (.cells #[.int .i64 35, .int .i64 (S : Int), .int .i64 (T : Int), .int .i64 (D : Int), .int .u32 m] 61)) w.heap.size 35 S T D m := Five.new w _ _ _ _ _ _
    have hb := (Below.refl w.heap.size w).alloc (Nat.le_refl _) (.cells #[.int .i64 35, .int .i64 (S : Int), .int .i64 (T : Int), .int .i64 (D : Int), .int .u32 m] 61)
    have HS0 : StB (w.alloc (.cells #[.int .i64 35, .int .i64 (S : Int), .int .i64 (T : Int), .int .i64 (D : Int), .int .u32 m] 61)) sb s := h.of_block (hb.block sb h.lt)
    have HK0 := Lib.hid (Kept.of_below (S := fun k => k = sb) hb)
    have HLT := Lib.hid h.lt
    have HF := Lib.hid HF0
    have HS := Lib.hid HS0
    have HSZ := Lib.hid (show w.heap.size < (w.alloc (.cells #[.int .i64 35, .int .i64 (S : Int), .int .i64 (T : Int), .int .i64 (D : Int), .int .u32 m] 61)).heap.size by simp)
    have HN := Lib.hid (And.intro hS (And.intro hT hD))
    have HRR := Lib.hid hR
    have iS : (S : Int) < 32 := by omega
    have iT : (T : Int) < 32 := by omega
    have iD : (D : Int) < 32 := by omega
    clear h hb HF0 HS0 hS hT hD hR m0 m1
    go_enter Tryz.func107, Tryz.ntmps107
    go_wp2_with fail
    generalize w.alloc (.cells #[.int .i64 35, .int .i64 (S : Int), .int .i64 (T : Int), .int .i64 (D : Int), .int .u32 m] 61) = W at *
    obtain ⟨c0, c1, c2, c3, c4⟩ := Five.cells HF.out
    have hx := HS.out.reg HN.out.1
    go_still (by kernel_rfl)
    change Exit.then _ _ Exit.normal _ W.drew
    have HF1 := Lib.hid (InsB.drew HF.out)
    have HS1 := Lib.hid (StB.drew HS.out)
    have HK1 := Lib.hid (Kept.trans HK0.out (Kept.of_below (Below.refl _ W).drew))
    have HSZ1 : Hid (w.heap.size < W.drew.heap.size) := HSZ
    clear c0 c1 c2 c3 c4 hx HF HS HK0 HSZ
    generalize W.drew = W1 at *
    go_wp2_with fail
    obtain ⟨c0, c1, c2, c3, c4⟩ := Five.cells HF1.out
    have hy := HS1.out.reg HN.out.2.1
    go_still (by kernel_rfl)
    change Exit.then _ _ Exit.normal _ W1.drew
    have HF2 := Lib.hid (InsB.drew HF1.out)
    have HS2 := Lib.hid (StB.drew HS1.out)
    have HK2 := Lib.hid (Kept.trans HK1.out (Kept.of_below (Below.refl _ W1).drew))
    have HSZ2 : Hid (w.heap.size < W1.drew.heap.size) := HSZ1
    clear c0 c1 c2 c3 c4 hy HF1 HS1 HK1 HSZ1
    generalize W1.drew = W2 at *
    obtain ⟨c0, c1, c2, c3, c4⟩ := Five.cells HF2.out
    go_wp2_with fail
    refine (HC5.out _).mono ?_
    rintro e w1 ⟨rfl, hb1⟩
    have HF4 := Lib.hid (show InsB w1 w.heap.size 35 S T D m from (hb1.block _ HSZ2.out).trans HF2.out)
    have HS4 := Lib.hid (show StB w1 sb s from Row.of_block (w' := w1) HS2.out (hb1.block sb HS2.out.lt))
    have HK4 := Lib.hid (HK2.out.trans (Kept.of_below hb1))
    clear hb1 c0 c1 c2 c3 c4
    obtain ⟨c0, c1, c2, c3, c4⟩ := Five.cells HF4.out
    go_wp2_with fail
    refine (HC2.out _).mono ?_
    rintro e w1 ⟨rfl, rfl⟩
    go_wp2_with fail
    refine (HC3.out _).mono ?_
    rintro e w1 ⟨rfl, rfl⟩
    go_wp2_with fail
    refine (HC4.out _).mono ?_
    rintro e w1 ⟨rfl, rfl⟩
    go_wp2_with fail
    have hz := HS4.out.reg HN.out.2.1
    have hzf := HS4.out.free T
    have HS3 := Lib.hid (StB.setReg (StB.drew HS4.out) HN.out.2.1 z)
    have HK3 := Lib.hid ((HK4.out.trans (Kept.of_below (Below.refl _ w1).drew)).trans (Kept.set w1.drew sb T (.int .u32 z)))
    refine wp_region_still_tail 12 (by kernel_rfl) (by kernel_rfl) ?_
    simp only [List.take_succ_cons, List.take_zero, List.drop_succ_cons, List.drop_zero]
    repeat still_step
    still_call (HC0.out _)
    repeat still_step
    still_call (HC1.out _)
    repeat still_step
    try refine wpStill_nil ?_
    change wpList _ _ _ _ _ w1.drew
    have hzd : w1.drew.cell? ⟨sb, T, none⟩ = some _ := hz
    have hzfd : w1.drew.frozen? ⟨sb, T, none⟩ = false := hzf
    clear hz hzf c0 c1 c2 c3 c4
    generalize w1.drew = W3 at *
    go_wp2
    go_ret
    exact ⟨rfl, HS3.out, HK3.out⟩
  | false =>
    rw [hf] at HC4
    show Calls _ _ _ _ fun e w' => SumOv w sb s e w'
    clear hf
    have HF0 : InsB (w.alloc (.cells #[.int .i64 35, .int .i64 (S : Int), .int .i64 (T : Int), .int .i64 (D : Int), .int .u32 m] 61)) w.heap.size 35 S T D m := Five.new w _ _ _ _ _ _
    have hb := (Below.refl w.heap.size w).alloc (Nat.le_refl _) (.cells #[.int .i64 35, .int .i64 (S : Int), .int .i64 (T : Int), .int .i64 (D : Int), .int .u32 m] 61)
    have HS0 : StB (w.alloc (.cells #[.int .i64 35, .int .i64 (S : Int), .int .i64 (T : Int), .int .i64 (D : Int), .int .u32 m] 61)) sb s := h.of_block (hb.block sb h.lt)
    have HK0 := Lib.hid (Kept.of_below (S := fun k => k = sb) hb)
    have HLT := Lib.hid h.lt
    have HF := Lib.hid HF0
    have HS := Lib.hid HS0
    have HSZ := Lib.hid (show w.heap.size < (w.alloc (.cells #[.int .i64 35, .int .i64 (S : Int), .int .i64 (T : Int), .int .i64 (D : Int), .int .u32 m] 61)).heap.size by simp)
    have HN := Lib.hid (And.intro hS (And.intro hT hD))
    have HRR := Lib.hid hR
    have iS : (S : Int) < 32 := by omega
    have iT : (T : Int) < 32 := by omega
    have iD : (D : Int) < 32 := by omega
    clear h hb HF0 HS0 hS hT hD hR m0 m1
    go_enter Tryz.func107, Tryz.ntmps107
    go_wp2_with fail
    generalize w.alloc (.cells #[.int .i64 35, .int .i64 (S : Int), .int .i64 (T : Int), .int .i64 (D : Int), .int .u32 m] 61) = W at *
    obtain ⟨c0, c1, c2, c3, c4⟩ := Five.cells HF.out
    have hx := HS.out.reg HN.out.1
    go_still (by kernel_rfl)
    change Exit.then _ _ Exit.normal _ W.drew
    have HF1 := Lib.hid (InsB.drew HF.out)
    have HS1 := Lib.hid (StB.drew HS.out)
    have HK1 := Lib.hid (Kept.trans HK0.out (Kept.of_below (Below.refl _ W).drew))
    have HSZ1 : Hid (w.heap.size < W.drew.heap.size) := HSZ
    clear c0 c1 c2 c3 c4 hx HF HS HK0 HSZ
    generalize W.drew = W1 at *
    go_wp2_with fail
    obtain ⟨c0, c1, c2, c3, c4⟩ := Five.cells HF1.out
    have hy := HS1.out.reg HN.out.2.1
    go_still (by kernel_rfl)
    change Exit.then _ _ Exit.normal _ W1.drew
    have HF2 := Lib.hid (InsB.drew HF1.out)
    have HS2 := Lib.hid (StB.drew HS1.out)
    have HK2 := Lib.hid (Kept.trans HK1.out (Kept.of_below (Below.refl _ W1).drew))
    have HSZ2 : Hid (w.heap.size < W1.drew.heap.size) := HSZ1
    clear c0 c1 c2 c3 c4 hy HF1 HS1 HK1 HSZ1
    generalize W1.drew = W2 at *
    obtain ⟨c0, c1, c2, c3, c4⟩ := Five.cells HF2.out
    go_wp2_with fail
    refine (HC5.out _).mono ?_
    rintro e w1 ⟨rfl, hb1⟩
    have HF4 := Lib.hid (show InsB w1 w.heap.size 35 S T D m from (hb1.block _ HSZ2.out).trans HF2.out)
    have HS4 := Lib.hid (show StB w1 sb s from Row.of_block (w' := w1) HS2.out (hb1.block sb HS2.out.lt))
    have HK4 := Lib.hid (HK2.out.trans (Kept.of_below hb1))
    clear hb1 c0 c1 c2 c3 c4
    obtain ⟨c0, c1, c2, c3, c4⟩ := Five.cells HF4.out
    go_wp2_with fail
    refine (HC2.out _).mono ?_
    rintro e w1 ⟨rfl, rfl⟩
    go_wp2_with fail
    refine (HC3.out _).mono ?_
    rintro e w1 ⟨rfl, rfl⟩
    go_wp2_with fail
    refine (HC4.out _).mono ?_
    rintro e w1 ⟨rfl, rfl⟩
    go_wp2
    go_ret
    exact ⟨rfl, HS4.out, HK4.out⟩
set_option maxHeartbeats 4000000 in
set_option maxRecDepth 100000 in
theorem sumD_36 {w : World} {sb S T D : Nat} {s : StF} {m : Int} (h : StB w sb s) (hR : RegsOK s.r) (hS : S < 32) (hT : T < 32) (hD : D < 32) (m0 : 0 ≤ m) (m1 : m < 4294967296) :
    Calls Tryz.prog 107 #[.pointer (some ⟨sb, 0, none⟩), insA 36 S T D m] w fun e w' => SumTo w sb s (updR s.r T (sumZ .add (s.r S) (wideS m))) s.hi s.lo e w' := by
  have HC0 := Lib.hid (fun wx => (kindS_36 wx).mono (fun _ _ h => And.intro h.1 h.2.symm))
  have HC1 := Lib.hid (fun wx => (sumOf_add (s.r S) (wideS m) (hR S).1 (hR S).2 (wideS_ok m).1 (wideS_ok m).2 wx).mono (fun _ _ h => And.intro h.1 h.2.symm))
  have HC2 := Lib.hid (fun wx => signed_val (s.r S) (hR S).1 (hR S).2 wx)
  have HC3 := Lib.hid (fun wx => signed_val (wideS m) (wideS_ok m).1 (wideS_ok m).2 wx)
  have HC4 := Lib.hid (fun wx => isSigned_any (wrap32 (s.r S) + wrap32 (wideS m)) wx)
  have HC5 := Lib.hid (fun wx => immOf_any 36 S T D m m0 m1 wx)
  have r0 := wrap32_range (s.r S)
  have r1 := wrap32_range (wideS m)
  have hw : IntKind.i64.wrap (wrap32 (s.r S) + wrap32 (wideS m)) = wrap32 (s.r S) + wrap32 (wideS m) := IntWalk.i64_in _ ⟨by omega, by omega⟩
  clear r0 r1
  generalize sumZ .add (s.r S) (wideS m) = z at HC1 ⊢
  generalize wrap32 (s.r S) = p at *
  generalize wrap32 (wideS m) = q at *
  generalize wideS m = im at *
  generalize fitsZ (p + q) = fb at *
  have HF0 : InsB (w.alloc (.cells #[.int .i64 36, .int .i64 (S : Int), .int .i64 (T : Int), .int .i64 (D : Int), .int .u32 m] 61)) w.heap.size 36 S T D m := Five.new w _ _ _ _ _ _
  have hb := (Below.refl w.heap.size w).alloc (Nat.le_refl _) (.cells #[.int .i64 36, .int .i64 (S : Int), .int .i64 (T : Int), .int .i64 (D : Int), .int .u32 m] 61)
  have HS0 : StB (w.alloc (.cells #[.int .i64 36, .int .i64 (S : Int), .int .i64 (T : Int), .int .i64 (D : Int), .int .u32 m] 61)) sb s := h.of_block (hb.block sb h.lt)
  have HK0 := Lib.hid (Kept.of_below (S := fun k => k = sb) hb)
  have HLT := Lib.hid h.lt
  have HF := Lib.hid HF0
  have HS := Lib.hid HS0
  have HSZ := Lib.hid (show w.heap.size < (w.alloc (.cells #[.int .i64 36, .int .i64 (S : Int), .int .i64 (T : Int), .int .i64 (D : Int), .int .u32 m] 61)).heap.size by simp)
  have HN := Lib.hid (And.intro hS (And.intro hT hD))
  have HRR := Lib.hid hR
  have iS : (S : Int) < 32 := by omega
  have iT : (T : Int) < 32 := by omega
  have iD : (D : Int) < 32 := by omega
  clear h hb HF0 HS0 hS hT hD hR m0 m1
  go_enter Tryz.func107, Tryz.ntmps107
  go_wp2_with fail
  generalize w.alloc (.cells #[.int .i64 36, .int .i64 (S : Int), .int .i64 (T : Int), .int .i64 (D : Int), .int .u32 m] 61) = W at *
  obtain ⟨c0, c1, c2, c3, c4⟩ := Five.cells HF.out
  have hx := HS.out.reg HN.out.1
  go_still (by kernel_rfl)
  change Exit.then _ _ Exit.normal _ W.drew
  have HF1 := Lib.hid (InsB.drew HF.out)
  have HS1 := Lib.hid (StB.drew HS.out)
  have HK1 := Lib.hid (Kept.trans HK0.out (Kept.of_below (Below.refl _ W).drew))
  have HSZ1 : Hid (w.heap.size < W.drew.heap.size) := HSZ
  clear c0 c1 c2 c3 c4 hx HF HS HK0 HSZ
  generalize W.drew = W1 at *
  go_wp2_with fail
  obtain ⟨c0, c1, c2, c3, c4⟩ := Five.cells HF1.out
  have hy := HS1.out.reg HN.out.2.1
  go_still (by kernel_rfl)
  change Exit.then _ _ Exit.normal _ W1.drew
  have HF2 := Lib.hid (InsB.drew HF1.out)
  have HS2 := Lib.hid (StB.drew HS1.out)
  have HK2 := Lib.hid (Kept.trans HK1.out (Kept.of_below (Below.refl _ W1).drew))
  have HSZ2 : Hid (w.heap.size < W1.drew.heap.size) := HSZ1
  clear c0 c1 c2 c3 c4 hy HF1 HS1 HK1 HSZ1
  generalize W1.drew = W2 at *
  obtain ⟨c0, c1, c2, c3, c4⟩ := Five.cells HF2.out
  go_wp2_with fail
  refine (HC5.out _).mono ?_
  rintro e w1 ⟨rfl, hb1⟩
  have HF4 := Lib.hid (show InsB w1 w.heap.size 36 S T D m from (hb1.block _ HSZ2.out).trans HF2.out)
  have HS4 := Lib.hid (show StB w1 sb s from Row.of_block (w' := w1) HS2.out (hb1.block sb HS2.out.lt))
  have HK4 := Lib.hid (HK2.out.trans (Kept.of_below hb1))
  clear hb1 c0 c1 c2 c3 c4
  obtain ⟨c0, c1, c2, c3, c4⟩ := Five.cells HF4.out
  go_wp2_with fail
  refine (HC2.out _).mono ?_
  rintro e w1 ⟨rfl, rfl⟩
  go_wp2_with fail
  refine (HC3.out _).mono ?_
  rintro e w1 ⟨rfl, rfl⟩
  go_wp2_with fail
  refine (HC4.out _).mono ?_
  rintro e w1 ⟨rfl, rfl⟩
  go_wp2_with fail
  have hz := HS4.out.reg HN.out.2.1
  have hzf := HS4.out.free T
  have HS3 := Lib.hid (StB.setReg (StB.drew HS4.out) HN.out.2.1 z)
  have HK3 := Lib.hid ((HK4.out.trans (Kept.of_below (Below.refl _ w1).drew)).trans (Kept.set w1.drew sb T (.int .u32 z)))
  refine wp_region_still_tail 12 (by kernel_rfl) (by kernel_rfl) ?_
  simp only [List.take_succ_cons, List.take_zero, List.drop_succ_cons, List.drop_zero]
  repeat still_step
  still_call (HC0.out _)
  repeat still_step
  still_call (HC1.out _)
  repeat still_step
  try refine wpStill_nil ?_
  change wpList _ _ _ _ _ w1.drew
  have hzd : w1.drew.cell? ⟨sb, T, none⟩ = some _ := hz
  have hzfd : w1.drew.frozen? ⟨sb, T, none⟩ = false := hzf
  clear hz hzf c0 c1 c2 c3 c4
  generalize w1.drew = W3 at *
  go_wp2
  go_ret
  exact ⟨rfl, HS3.out, HK3.out⟩
set_option maxHeartbeats 4000000 in
set_option maxRecDepth 100000 in
theorem sumD_37 {w : World} {sb S T D : Nat} {s : StF} {m : Int} (h : StB w sb s) (hR : RegsOK s.r) (hS : S < 32) (hT : T < 32) (hD : D < 32) (m0 : 0 ≤ m) (m1 : m < 4294967296) :
    Calls Tryz.prog 107 #[.pointer (some ⟨sb, 0, none⟩), insA 37 S T D m] w fun e w' => SumTo w sb s (updR s.r T (sumZ .slt (s.r S) (wideS m))) s.hi s.lo e w' := by
  have HC0 := Lib.hid (fun wx => (kindS_37 wx).mono (fun _ _ h => And.intro h.1 h.2.symm))
  have HC1 := Lib.hid (fun wx => (sumOf_slt (s.r S) (wideS m) (hR S).1 (hR S).2 (wideS_ok m).1 (wideS_ok m).2 wx).mono (fun _ _ h => And.intro h.1 h.2.symm))
  have HC2 := Lib.hid (fun wx => signed_val (s.r S) (hR S).1 (hR S).2 wx)
  have HC3 := Lib.hid (fun wx => signed_val (wideS m) (wideS_ok m).1 (wideS_ok m).2 wx)
  have HC4 := Lib.hid (fun wx => isSigned_any (wrap32 (s.r S) + wrap32 (wideS m)) wx)
  have HC5 := Lib.hid (fun wx => immOf_any 37 S T D m m0 m1 wx)
  have r0 := wrap32_range (s.r S)
  have r1 := wrap32_range (wideS m)
  have hw : IntKind.i64.wrap (wrap32 (s.r S) + wrap32 (wideS m)) = wrap32 (s.r S) + wrap32 (wideS m) := IntWalk.i64_in _ ⟨by omega, by omega⟩
  clear r0 r1
  generalize sumZ .slt (s.r S) (wideS m) = z at HC1 ⊢
  generalize wrap32 (s.r S) = p at *
  generalize wrap32 (wideS m) = q at *
  generalize wideS m = im at *
  generalize fitsZ (p + q) = fb at *
  have HF0 : InsB (w.alloc (.cells #[.int .i64 37, .int .i64 (S : Int), .int .i64 (T : Int), .int .i64 (D : Int), .int .u32 m] 61)) w.heap.size 37 S T D m := Five.new w _ _ _ _ _ _
  have hb := (Below.refl w.heap.size w).alloc (Nat.le_refl _) (.cells #[.int .i64 37, .int .i64 (S : Int), .int .i64 (T : Int), .int .i64 (D : Int), .int .u32 m] 61)
  have HS0 : StB (w.alloc (.cells #[.int .i64 37, .int .i64 (S : Int), .int .i64 (T : Int), .int .i64 (D : Int), .int .u32 m] 61)) sb s := h.of_block (hb.block sb h.lt)
  have HK0 := Lib.hid (Kept.of_below (S := fun k => k = sb) hb)
  have HLT := Lib.hid h.lt
  have HF := Lib.hid HF0
  have HS := Lib.hid HS0
  have HSZ := Lib.hid (show w.heap.size < (w.alloc (.cells #[.int .i64 37, .int .i64 (S : Int), .int .i64 (T : Int), .int .i64 (D : Int), .int .u32 m] 61)).heap.size by simp)
  have HN := Lib.hid (And.intro hS (And.intro hT hD))
  have HRR := Lib.hid hR
  have iS : (S : Int) < 32 := by omega
  have iT : (T : Int) < 32 := by omega
  have iD : (D : Int) < 32 := by omega
  clear h hb HF0 HS0 hS hT hD hR m0 m1
  go_enter Tryz.func107, Tryz.ntmps107
  go_wp2_with fail
  generalize w.alloc (.cells #[.int .i64 37, .int .i64 (S : Int), .int .i64 (T : Int), .int .i64 (D : Int), .int .u32 m] 61) = W at *
  obtain ⟨c0, c1, c2, c3, c4⟩ := Five.cells HF.out
  have hx := HS.out.reg HN.out.1
  go_still (by kernel_rfl)
  change Exit.then _ _ Exit.normal _ W.drew
  have HF1 := Lib.hid (InsB.drew HF.out)
  have HS1 := Lib.hid (StB.drew HS.out)
  have HK1 := Lib.hid (Kept.trans HK0.out (Kept.of_below (Below.refl _ W).drew))
  have HSZ1 : Hid (w.heap.size < W.drew.heap.size) := HSZ
  clear c0 c1 c2 c3 c4 hx HF HS HK0 HSZ
  generalize W.drew = W1 at *
  go_wp2_with fail
  obtain ⟨c0, c1, c2, c3, c4⟩ := Five.cells HF1.out
  have hy := HS1.out.reg HN.out.2.1
  go_still (by kernel_rfl)
  change Exit.then _ _ Exit.normal _ W1.drew
  have HF2 := Lib.hid (InsB.drew HF1.out)
  have HS2 := Lib.hid (StB.drew HS1.out)
  have HK2 := Lib.hid (Kept.trans HK1.out (Kept.of_below (Below.refl _ W1).drew))
  have HSZ2 : Hid (w.heap.size < W1.drew.heap.size) := HSZ1
  clear c0 c1 c2 c3 c4 hy HF1 HS1 HK1 HSZ1
  generalize W1.drew = W2 at *
  obtain ⟨c0, c1, c2, c3, c4⟩ := Five.cells HF2.out
  go_wp2_with fail
  refine (HC5.out _).mono ?_
  rintro e w1 ⟨rfl, hb1⟩
  have HF4 := Lib.hid (show InsB w1 w.heap.size 37 S T D m from (hb1.block _ HSZ2.out).trans HF2.out)
  have HS4 := Lib.hid (show StB w1 sb s from Row.of_block (w' := w1) HS2.out (hb1.block sb HS2.out.lt))
  have HK4 := Lib.hid (HK2.out.trans (Kept.of_below hb1))
  clear hb1 c0 c1 c2 c3 c4
  obtain ⟨c0, c1, c2, c3, c4⟩ := Five.cells HF4.out
  go_wp2_with fail
  refine (HC2.out _).mono ?_
  rintro e w1 ⟨rfl, rfl⟩
  go_wp2_with fail
  refine (HC3.out _).mono ?_
  rintro e w1 ⟨rfl, rfl⟩
  go_wp2_with fail
  refine (HC4.out _).mono ?_
  rintro e w1 ⟨rfl, rfl⟩
  go_wp2_with fail
  have hz := HS4.out.reg HN.out.2.1
  have hzf := HS4.out.free T
  have HS3 := Lib.hid (StB.setReg (StB.drew HS4.out) HN.out.2.1 z)
  have HK3 := Lib.hid ((HK4.out.trans (Kept.of_below (Below.refl _ w1).drew)).trans (Kept.set w1.drew sb T (.int .u32 z)))
  refine wp_region_still_tail 12 (by kernel_rfl) (by kernel_rfl) ?_
  simp only [List.take_succ_cons, List.take_zero, List.drop_succ_cons, List.drop_zero]
  repeat still_step
  still_call (HC0.out _)
  repeat still_step
  still_call (HC1.out _)
  repeat still_step
  try refine wpStill_nil ?_
  change wpList _ _ _ _ _ w1.drew
  have hzd : w1.drew.cell? ⟨sb, T, none⟩ = some _ := hz
  have hzfd : w1.drew.frozen? ⟨sb, T, none⟩ = false := hzf
  clear hz hzf c0 c1 c2 c3 c4
  generalize w1.drew = W3 at *
  go_wp2
  go_ret
  exact ⟨rfl, HS3.out, HK3.out⟩
set_option maxHeartbeats 4000000 in
set_option maxRecDepth 100000 in
theorem sumD_38 {w : World} {sb S T D : Nat} {s : StF} {m : Int} (h : StB w sb s) (hR : RegsOK s.r) (hS : S < 32) (hT : T < 32) (hD : D < 32) (m0 : 0 ≤ m) (m1 : m < 4294967296) :
    Calls Tryz.prog 107 #[.pointer (some ⟨sb, 0, none⟩), insA 38 S T D m] w fun e w' => SumTo w sb s (updR s.r T (sumZ .sltu (s.r S) (wideS m))) s.hi s.lo e w' := by
  have HC0 := Lib.hid (fun wx => (kindS_38 wx).mono (fun _ _ h => And.intro h.1 h.2.symm))
  have HC1 := Lib.hid (fun wx => (sumOf_sltu (s.r S) (wideS m) (hR S).1 (hR S).2 (wideS_ok m).1 (wideS_ok m).2 wx).mono (fun _ _ h => And.intro h.1 h.2.symm))
  have HC2 := Lib.hid (fun wx => signed_val (s.r S) (hR S).1 (hR S).2 wx)
  have HC3 := Lib.hid (fun wx => signed_val (wideS m) (wideS_ok m).1 (wideS_ok m).2 wx)
  have HC4 := Lib.hid (fun wx => isSigned_any (wrap32 (s.r S) + wrap32 (wideS m)) wx)
  have HC5 := Lib.hid (fun wx => immOf_any 38 S T D m m0 m1 wx)
  have r0 := wrap32_range (s.r S)
  have r1 := wrap32_range (wideS m)
  have hw : IntKind.i64.wrap (wrap32 (s.r S) + wrap32 (wideS m)) = wrap32 (s.r S) + wrap32 (wideS m) := IntWalk.i64_in _ ⟨by omega, by omega⟩
  clear r0 r1
  generalize sumZ .sltu (s.r S) (wideS m) = z at HC1 ⊢
  generalize wrap32 (s.r S) = p at *
  generalize wrap32 (wideS m) = q at *
  generalize wideS m = im at *
  generalize fitsZ (p + q) = fb at *
  have HF0 : InsB (w.alloc (.cells #[.int .i64 38, .int .i64 (S : Int), .int .i64 (T : Int), .int .i64 (D : Int), .int .u32 m] 61)) w.heap.size 38 S T D m := Five.new w _ _ _ _ _ _
  have hb := (Below.refl w.heap.size w).alloc (Nat.le_refl _) (.cells #[.int .i64 38, .int .i64 (S : Int), .int .i64 (T : Int), .int .i64 (D : Int), .int .u32 m] 61)
  have HS0 : StB (w.alloc (.cells #[.int .i64 38, .int .i64 (S : Int), .int .i64 (T : Int), .int .i64 (D : Int), .int .u32 m] 61)) sb s := h.of_block (hb.block sb h.lt)
  have HK0 := Lib.hid (Kept.of_below (S := fun k => k = sb) hb)
  have HLT := Lib.hid h.lt
  have HF := Lib.hid HF0
  have HS := Lib.hid HS0
  have HSZ := Lib.hid (show w.heap.size < (w.alloc (.cells #[.int .i64 38, .int .i64 (S : Int), .int .i64 (T : Int), .int .i64 (D : Int), .int .u32 m] 61)).heap.size by simp)
  have HN := Lib.hid (And.intro hS (And.intro hT hD))
  have HRR := Lib.hid hR
  have iS : (S : Int) < 32 := by omega
  have iT : (T : Int) < 32 := by omega
  have iD : (D : Int) < 32 := by omega
  clear h hb HF0 HS0 hS hT hD hR m0 m1
  go_enter Tryz.func107, Tryz.ntmps107
  go_wp2_with fail
  generalize w.alloc (.cells #[.int .i64 38, .int .i64 (S : Int), .int .i64 (T : Int), .int .i64 (D : Int), .int .u32 m] 61) = W at *
  obtain ⟨c0, c1, c2, c3, c4⟩ := Five.cells HF.out
  have hx := HS.out.reg HN.out.1
  go_still (by kernel_rfl)
  change Exit.then _ _ Exit.normal _ W.drew
  have HF1 := Lib.hid (InsB.drew HF.out)
  have HS1 := Lib.hid (StB.drew HS.out)
  have HK1 := Lib.hid (Kept.trans HK0.out (Kept.of_below (Below.refl _ W).drew))
  have HSZ1 : Hid (w.heap.size < W.drew.heap.size) := HSZ
  clear c0 c1 c2 c3 c4 hx HF HS HK0 HSZ
  generalize W.drew = W1 at *
  go_wp2_with fail
  obtain ⟨c0, c1, c2, c3, c4⟩ := Five.cells HF1.out
  have hy := HS1.out.reg HN.out.2.1
  go_still (by kernel_rfl)
  change Exit.then _ _ Exit.normal _ W1.drew
  have HF2 := Lib.hid (InsB.drew HF1.out)
  have HS2 := Lib.hid (StB.drew HS1.out)
  have HK2 := Lib.hid (Kept.trans HK1.out (Kept.of_below (Below.refl _ W1).drew))
  have HSZ2 : Hid (w.heap.size < W1.drew.heap.size) := HSZ1
  clear c0 c1 c2 c3 c4 hy HF1 HS1 HK1 HSZ1
  generalize W1.drew = W2 at *
  obtain ⟨c0, c1, c2, c3, c4⟩ := Five.cells HF2.out
  go_wp2_with fail
  refine (HC5.out _).mono ?_
  rintro e w1 ⟨rfl, hb1⟩
  have HF4 := Lib.hid (show InsB w1 w.heap.size 38 S T D m from (hb1.block _ HSZ2.out).trans HF2.out)
  have HS4 := Lib.hid (show StB w1 sb s from Row.of_block (w' := w1) HS2.out (hb1.block sb HS2.out.lt))
  have HK4 := Lib.hid (HK2.out.trans (Kept.of_below hb1))
  clear hb1 c0 c1 c2 c3 c4
  obtain ⟨c0, c1, c2, c3, c4⟩ := Five.cells HF4.out
  go_wp2_with fail
  refine (HC2.out _).mono ?_
  rintro e w1 ⟨rfl, rfl⟩
  go_wp2_with fail
  refine (HC3.out _).mono ?_
  rintro e w1 ⟨rfl, rfl⟩
  go_wp2_with fail
  refine (HC4.out _).mono ?_
  rintro e w1 ⟨rfl, rfl⟩
  go_wp2_with fail
  have hz := HS4.out.reg HN.out.2.1
  have hzf := HS4.out.free T
  have HS3 := Lib.hid (StB.setReg (StB.drew HS4.out) HN.out.2.1 z)
  have HK3 := Lib.hid ((HK4.out.trans (Kept.of_below (Below.refl _ w1).drew)).trans (Kept.set w1.drew sb T (.int .u32 z)))
  refine wp_region_still_tail 12 (by kernel_rfl) (by kernel_rfl) ?_
  simp only [List.take_succ_cons, List.take_zero, List.drop_succ_cons, List.drop_zero]
  repeat still_step
  still_call (HC0.out _)
  repeat still_step
  still_call (HC1.out _)
  repeat still_step
  try refine wpStill_nil ?_
  change wpList _ _ _ _ _ w1.drew
  have hzd : w1.drew.cell? ⟨sb, T, none⟩ = some _ := hz
  have hzfd : w1.drew.frozen? ⟨sb, T, none⟩ = false := hzf
  clear hz hzf c0 c1 c2 c3 c4
  generalize w1.drew = W3 at *
  go_wp2
  go_ret
  exact ⟨rfl, HS3.out, HK3.out⟩
end Go.Proofs.YtadoaldnjnkhgaaGreatDoor
