/- The walk of the document's sum of an instruction, products and quotients, sums that may be too great. Conditions: as each theorem states. -/
import Derived.Test.YtadoaldnjnkhgaaGreatDoorQ20
set_option linter.unusedVariables false
set_option linter.unusedSimpArgs false
namespace Go.Proofs.YtadoaldnjnkhgaaGreatDoor
open Go.RowKit
set_option maxHeartbeats 4000000 in
set_option maxRecDepth 100000 in
theorem sumD_15 {w : World} {sb S T D : Nat} {s : StF} {m : Int} (h : StB w sb s) (hR : RegsOK s.r) (hS : S < 32) (hT : T < 32) (hD : D < 32) (m0 : 0 ≤ m) (m1 : m < 4294967296) :
    Calls Tryz.prog 107 #[.pointer (some ⟨sb, 0, none⟩), insA 15 S T D m] w fun e w' => SumTo w sb s s.r (mulZ (s.r S) (s.r T) true).1 (mulZ (s.r S) (s.r T) true).2 e w' := by
  have HC0 := Lib.hid (fun wx => mulOf_any (s.r S) (s.r T) true (hR S).1 (hR S).2 (hR T).1 (hR T).2 wx)
  generalize (mulZ (s.r S) (s.r T) true).1 = z1 at HC0 ⊢
  generalize (mulZ (s.r S) (s.r T) true).2 = z2 at HC0 ⊢
  have HF0 : InsB (w.alloc (.cells #[.int .i64 15, .int .i64 (S : Int), .int .i64 (T : Int), .int .i64 (D : Int), .int .u32 m] 61)) w.heap.size 15 S T D m := Five.new w _ _ _ _ _ _
  have hb := (Below.refl w.heap.size w).alloc (Nat.le_refl _) (.cells #[.int .i64 15, .int .i64 (S : Int), .int .i64 (T : Int), .int .i64 (D : Int), .int .u32 m] 61)
  have HS0 : StB (w.alloc (.cells #[.int .i64 15, .int .i64 (S : Int), .int .i64 (T : Int), .int .i64 (D : Int), .int .u32 m] 61)) sb s := h.of_block (hb.block sb h.lt)
  have HK0 := Lib.hid (Kept.of_below (S := fun k => k = sb) hb)
  have HLT := Lib.hid h.lt
  have HF := Lib.hid HF0
  have HS := Lib.hid HS0
  have HSZ := Lib.hid (show w.heap.size < (w.alloc (.cells #[.int .i64 15, .int .i64 (S : Int), .int .i64 (T : Int), .int .i64 (D : Int), .int .u32 m] 61)).heap.size by simp)
  have HN := Lib.hid (And.intro hS (And.intro hT hD))
  have HRR := Lib.hid hR
  have iS : (S : Int) < 32 := by omega
  have iT : (T : Int) < 32 := by omega
  have iD : (D : Int) < 32 := by omega
  clear h hb HF0 HS0 hS hT hD hR m0 m1
  go_enter Tryz.func107, Tryz.ntmps107
  go_wp2_with fail
  generalize w.alloc (.cells #[.int .i64 15, .int .i64 (S : Int), .int .i64 (T : Int), .int .i64 (D : Int), .int .u32 m] 61) = W at *
  obtain ⟨c0, c1, c2, c3, c4⟩ := Five.cells HF.out
  have hx := HS.out.reg HN.out.1
  go_still (by kernel_rfl)
  change Exit.then _ _ Exit.normal _ W.drew
  have HF1 := Lib.hid (InsB.drew HF.out)
  have HS1 := Lib.hid (StB.drew HS.out)
  have HK1 := Lib.hid (Kept.trans HK0.out (Kept.of_below (Below.refl _ W).drew))
  have HSZ1 : Hid (w.heap.size < W.drew.heap.size) := HSZ
  clear c0 c1 c2 c3 c4 hx HF HS HK0 HSZ
  generalize W.drew = W1 at *
  go_wp2_with fail
  obtain ⟨c0, c1, c2, c3, c4⟩ := Five.cells HF1.out
  have hy := HS1.out.reg HN.out.2.1
  go_still (by kernel_rfl)
  change Exit.then _ _ Exit.normal _ W1.drew
  have HF2 := Lib.hid (InsB.drew HF1.out)
  have HS2 := Lib.hid (StB.drew HS1.out)
  have HK2 := Lib.hid (Kept.trans HK1.out (Kept.of_below (Below.refl _ W1).drew))
  have HSZ2 : Hid (w.heap.size < W1.drew.heap.size) := HSZ1
  clear c0 c1 c2 c3 c4 hy HF1 HS1 HK1 HSZ1
  generalize W1.drew = W2 at *
  obtain ⟨c0, c1, c2, c3, c4⟩ := Five.cells HF2.out
  go_wp2_with fail
  refine (HC0.out _).mono ?_
  rintro e w1 ⟨rfl, rfl⟩
  have hz := HS2.out.cell (show 32 < 43 by decide)
  have hzf := HS2.out.free 32
  have HS3 := StB.setHi HS2.out z1
  have hz2 := HS3.cell (show 33 < 43 by decide)
  have hzf2 := HS3.free 33
  have HS4 := Lib.hid (StB.setLo HS3 z2)
  have HK3 := Lib.hid ((HK2.out.trans (Kept.set W2 sb 32 (.int .u32 z1))).trans (Kept.set _ sb 33 (.int .u32 z2)))
  clear HS3
  simp only [stG] at hz hz2
  go_wp2
  go_ret
  exact ⟨rfl, HS4.out, HK3.out⟩
set_option maxHeartbeats 4000000 in
set_option maxRecDepth 100000 in
theorem sumD_16 {w : World} {sb S T D : Nat} {s : StF} {m : Int} (h : StB w sb s) (hR : RegsOK s.r) (hS : S < 32) (hT : T < 32) (hD : D < 32) (m0 : 0 ≤ m) (m1 : m < 4294967296) :
    Calls Tryz.prog 107 #[.pointer (some ⟨sb, 0, none⟩), insA 16 S T D m] w fun e w' => SumTo w sb s s.r (mulZ (s.r S) (s.r T) false).1 (mulZ (s.r S) (s.r T) false).2 e w' := by
  have HC0 := Lib.hid (fun wx => mulOf_any (s.r S) (s.r T) false (hR S).1 (hR S).2 (hR T).1 (hR T).2 wx)
  generalize (mulZ (s.r S) (s.r T) false).1 = z1 at HC0 ⊢
  generalize (mulZ (s.r S) (s.r T) false).2 = z2 at HC0 ⊢
  have HF0 : InsB (w.alloc (.cells #[.int .i64 16, .int .i64 (S : Int), .int .i64 (T : Int), .int .i64 (D : Int), .int .u32 m] 61)) w.heap.size 16 S T D m := Five.new w _ _ _ _ _ _
  have hb := (Below.refl w.heap.size w).alloc (Nat.le_refl _) (.cells #[.int .i64 16, .int .i64 (S : Int), .int .i64 (T : Int), .int .i64 (D : Int), .int .u32 m] 61)
  have HS0 : StB (w.alloc (.cells #[.int .i64 16, .int .i64 (S : Int), .int .i64 (T : Int), .int .i64 (D : Int), .int .u32 m] 61)) sb s := h.of_block (hb.block sb h.lt)
  have HK0 := Lib.hid (Kept.of_below (S := fun k => k = sb) hb)
  have HLT := Lib.hid h.lt
  have HF := Lib.hid HF0
  have HS := Lib.hid HS0
  have HSZ := Lib.hid (show w.heap.size < (w.alloc (.cells #[.int .i64 16, .int .i64 (S : Int), .int .i64 (T : Int), .int .i64 (D : Int), .int .u32 m] 61)).heap.size by simp)
  have HN := Lib.hid (And.intro hS (And.intro hT hD))
  have HRR := Lib.hid hR
  have iS : (S : Int) < 32 := by omega
  have iT : (T : Int) < 32 := by omega
  have iD : (D : Int) < 32 := by omega
  clear h hb HF0 HS0 hS hT hD hR m0 m1
  go_enter Tryz.func107, Tryz.ntmps107
  go_wp2_with fail
  generalize w.alloc (.cells #[.int .i64 16, .int .i64 (S : Int), .int .i64 (T : Int), .int .i64 (D : Int), .int .u32 m] 61) = W at *
  obtain ⟨c0, c1, c2, c3, c4⟩ := Five.cells HF.out
  have hx := HS.out.reg HN.out.1
  go_still (by kernel_rfl)
  change Exit.then _ _ Exit.normal _ W.drew
  have HF1 := Lib.hid (InsB.drew HF.out)
  have HS1 := Lib.hid (StB.drew HS.out)
  have HK1 := Lib.hid (Kept.trans HK0.out (Kept.of_below (Below.refl _ W).drew))
  have HSZ1 : Hid (w.heap.size < W.drew.heap.size) := HSZ
  clear c0 c1 c2 c3 c4 hx HF HS HK0 HSZ
  generalize W.drew = W1 at *
  go_wp2_with fail
  obtain ⟨c0, c1, c2, c3, c4⟩ := Five.cells HF1.out
  have hy := HS1.out.reg HN.out.2.1
  go_still (by kernel_rfl)
  change Exit.then _ _ Exit.normal _ W1.drew
  have HF2 := Lib.hid (InsB.drew HF1.out)
  have HS2 := Lib.hid (StB.drew HS1.out)
  have HK2 := Lib.hid (Kept.trans HK1.out (Kept.of_below (Below.refl _ W1).drew))
  have HSZ2 : Hid (w.heap.size < W1.drew.heap.size) := HSZ1
  clear c0 c1 c2 c3 c4 hy HF1 HS1 HK1 HSZ1
  generalize W1.drew = W2 at *
  obtain ⟨c0, c1, c2, c3, c4⟩ := Five.cells HF2.out
  go_wp2_with fail
  refine (HC0.out _).mono ?_
  rintro e w1 ⟨rfl, rfl⟩
  have hz := HS2.out.cell (show 32 < 43 by decide)
  have hzf := HS2.out.free 32
  have HS3 := StB.setHi HS2.out z1
  have hz2 := HS3.cell (show 33 < 43 by decide)
  have hzf2 := HS3.free 33
  have HS4 := Lib.hid (StB.setLo HS3 z2)
  have HK3 := Lib.hid ((HK2.out.trans (Kept.set W2 sb 32 (.int .u32 z1))).trans (Kept.set _ sb 33 (.int .u32 z2)))
  clear HS3
  simp only [stG] at hz hz2
  go_wp2
  go_ret
  exact ⟨rfl, HS4.out, HK3.out⟩
set_option maxHeartbeats 4000000 in
set_option maxRecDepth 100000 in
theorem sumD_17 {w : World} {sb S T D : Nat} {s : StF} {m : Int} (h : StB w sb s) (hR : RegsOK s.r) (hS : S < 32) (hT : T < 32) (hD : D < 32) (m0 : 0 ≤ m) (m1 : m < 4294967296) :
    Calls Tryz.prog 107 #[.pointer (some ⟨sb, 0, none⟩), insA 17 S T D m] w fun e w' => match divZ (s.r S) (s.r T) true with | some q => SumTo w sb s s.r q.2 q.1 e w' | none => SumTo w sb s s.r s.hi s.lo e w' := by
  by_cases hz0 : s.r T = 0
  · have hv : divZ (s.r S) (s.r T) true = none := by unfold divZ; rw [if_pos hz0]
    rw [hv]
    dsimp only
    have HC0 := Lib.hid (fun wx => divOf_0 (s.r S) true wx)
    have HZ0 := Lib.hid hz0
    clear hv hz0
    have HF0 : InsB (w.alloc (.cells #[.int .i64 17, .int .i64 (S : Int), .int .i64 (T : Int), .int .i64 (D : Int), .int .u32 m] 61)) w.heap.size 17 S T D m := Five.new w _ _ _ _ _ _
    have hb := (Below.refl w.heap.size w).alloc (Nat.le_refl _) (.cells #[.int .i64 17, .int .i64 (S : Int), .int .i64 (T : Int), .int .i64 (D : Int), .int .u32 m] 61)
    have HS0 : StB (w.alloc (.cells #[.int .i64 17, .int .i64 (S : Int), .int .i64 (T : Int), .int .i64 (D : Int), .int .u32 m] 61)) sb s := h.of_block (hb.block sb h.lt)
    have HK0 := Lib.hid (Kept.of_below (S := fun k => k = sb) hb)
    have HLT := Lib.hid h.lt
    have HF := Lib.hid HF0
    have HS := Lib.hid HS0
    have HSZ := Lib.hid (show w.heap.size < (w.alloc (.cells #[.int .i64 17, .int .i64 (S : Int), .int .i64 (T : Int), .int .i64 (D : Int), .int .u32 m] 61)).heap.size by simp)
    have HN := Lib.hid (And.intro hS (And.intro hT hD))
    have HRR := Lib.hid hR
    have iS : (S : Int) < 32 := by omega
    have iT : (T : Int) < 32 := by omega
    have iD : (D : Int) < 32 := by omega
    clear h hb HF0 HS0 hS hT hD hR m0 m1
    go_enter Tryz.func107, Tryz.ntmps107
    go_wp2_with fail
    generalize w.alloc (.cells #[.int .i64 17, .int .i64 (S : Int), .int .i64 (T : Int), .int .i64 (D : Int), .int .u32 m] 61) = W at *
    obtain ⟨c0, c1, c2, c3, c4⟩ := Five.cells HF.out
    have hx := HS.out.reg HN.out.1
    go_still (by kernel_rfl)
    change Exit.then _ _ Exit.normal _ W.drew
    have HF1 := Lib.hid (InsB.drew HF.out)
    have HS1 := Lib.hid (StB.drew HS.out)
    have HK1 := Lib.hid (Kept.trans HK0.out (Kept.of_below (Below.refl _ W).drew))
    have HSZ1 : Hid (w.heap.size < W.drew.heap.size) := HSZ
    clear c0 c1 c2 c3 c4 hx HF HS HK0 HSZ
    generalize W.drew = W1 at *
    go_wp2_with fail
    obtain ⟨c0, c1, c2, c3, c4⟩ := Five.cells HF1.out
    have hy := HS1.out.reg HN.out.2.1
    rw [HZ0.out] at hy
    go_still (by kernel_rfl)
    change Exit.then _ _ Exit.normal _ W1.drew
    have HF2 := Lib.hid (InsB.drew HF1.out)
    have HS2 := Lib.hid (StB.drew HS1.out)
    have HK2 := Lib.hid (Kept.trans HK1.out (Kept.of_below (Below.refl _ W1).drew))
    have HSZ2 : Hid (w.heap.size < W1.drew.heap.size) := HSZ1
    clear c0 c1 c2 c3 c4 hy HF1 HS1 HK1 HSZ1
    generalize W1.drew = W2 at *
    obtain ⟨c0, c1, c2, c3, c4⟩ := Five.cells HF2.out
    go_wp2_with fail
    refine (HC0.out _).mono ?_
    rintro e w1 ⟨rfl, rfl⟩
    go_wp2
    go_ret
    exact ⟨rfl, HS2.out, HK2.out⟩
  · have hp : 0 < s.r T := by have := (hR T).1; omega
    have hv : divZ (s.r S) (s.r T) true = some (((wrap32 (s.r S)).tdiv (wrap32 (s.r T)) % 4294967296), ((wrap32 (s.r S)).tmod (wrap32 (s.r T)) % 4294967296)) := by unfold divZ; rw [if_neg hz0]; rfl
    rw [hv]
    dsimp only
    have HC0 := Lib.hid (fun wx => divOf_s (s.r S) (s.r T) (hR S).1 (hR S).2 hp (hR T).2 wx)
    generalize ((wrap32 (s.r S)).tdiv (wrap32 (s.r T)) % 4294967296) = z1 at HC0 ⊢
    generalize ((wrap32 (s.r S)).tmod (wrap32 (s.r T)) % 4294967296) = z2 at HC0 ⊢
    clear hv hz0 hp
    have HF0 : InsB (w.alloc (.cells #[.int .i64 17, .int .i64 (S : Int), .int .i64 (T : Int), .int .i64 (D : Int), .int .u32 m] 61)) w.heap.size 17 S T D m := Five.new w _ _ _ _ _ _
    have hb := (Below.refl w.heap.size w).alloc (Nat.le_refl _) (.cells #[.int .i64 17, .int .i64 (S : Int), .int .i64 (T : Int), .int .i64 (D : Int), .int .u32 m] 61)
    have HS0 : StB (w.alloc (.cells #[.int .i64 17, .int .i64 (S : Int), .int .i64 (T : Int), .int .i64 (D : Int), .int .u32 m] 61)) sb s := h.of_block (hb.block sb h.lt)
    have HK0 := Lib.hid (Kept.of_below (S := fun k => k = sb) hb)
    have HLT := Lib.hid h.lt
    have HF := Lib.hid HF0
    have HS := Lib.hid HS0
    have HSZ := Lib.hid (show w.heap.size < (w.alloc (.cells #[.int .i64 17, .int .i64 (S : Int), .int .i64 (T : Int), .int .i64 (D : Int), .int .u32 m] 61)).heap.size by simp)
    have HN := Lib.hid (And.intro hS (And.intro hT hD))
    have HRR := Lib.hid hR
    have iS : (S : Int) < 32 := by omega
    have iT : (T : Int) < 32 := by omega
    have iD : (D : Int) < 32 := by omega
    clear h hb HF0 HS0 hS hT hD hR m0 m1
    go_enter Tryz.func107, Tryz.ntmps107
    go_wp2_with fail
    generalize w.alloc (.cells #[.int .i64 17, .int .i64 (S : Int), .int .i64 (T : Int), .int .i64 (D : Int), .int .u32 m] 61) = W at *
    obtain ⟨c0, c1, c2, c3, c4⟩ := Five.cells HF.out
    have hx := HS.out.reg HN.out.1
    go_still (by kernel_rfl)
    change Exit.then _ _ Exit.normal _ W.drew
    have HF1 := Lib.hid (InsB.drew HF.out)
    have HS1 := Lib.hid (StB.drew HS.out)
    have HK1 := Lib.hid (Kept.trans HK0.out (Kept.of_below (Below.refl _ W).drew))
    have HSZ1 : Hid (w.heap.size < W.drew.heap.size) := HSZ
    clear c0 c1 c2 c3 c4 hx HF HS HK0 HSZ
    generalize W.drew = W1 at *
    go_wp2_with fail
    obtain ⟨c0, c1, c2, c3, c4⟩ := Five.cells HF1.out
    have hy := HS1.out.reg HN.out.2.1
    go_still (by kernel_rfl)
    change Exit.then _ _ Exit.normal _ W1.drew
    have HF2 := Lib.hid (InsB.drew HF1.out)
    have HS2 := Lib.hid (StB.drew HS1.out)
    have HK2 := Lib.hid (Kept.trans HK1.out (Kept.of_below (Below.refl _ W1).drew))
    have HSZ2 : Hid (w.heap.size < W1.drew.heap.size) := HSZ1
    clear c0 c1 c2 c3 c4 hy HF1 HS1 HK1 HSZ1
    generalize W1.drew = W2 at *
    obtain ⟨c0, c1, c2, c3, c4⟩ := Five.cells HF2.out
    go_wp2_with fail
    refine (HC0.out _).mono ?_
    rintro e w1 ⟨rfl, hb1⟩
    have HS2' := Lib.hid (show StB w1 sb s from Row.of_block (w' := w1) HS2.out (hb1.block sb HS2.out.lt))
    have HK2' := Lib.hid (HK2.out.trans (Kept.of_below hb1))
    clear hb1 c0 c1 c2 c3 c4
    have hz := HS2'.out.cell (show 33 < 43 by decide)
    have hzf := HS2'.out.free 33
    have HS3 := StB.setLo HS2'.out z1
    have hz2 := HS3.cell (show 32 < 43 by decide)
    have hzf2 := HS3.free 32
    have HS4 := Lib.hid (StB.setHi HS3 z2)
    have HK3 := Lib.hid ((HK2'.out.trans (Kept.set w1 sb 33 (.int .u32 z1))).trans (Kept.set _ sb 32 (.int .u32 z2)))
    clear HS3
    simp only [stG] at hz hz2
    go_wp2
    go_ret
    exact ⟨rfl, HS4.out, HK3.out⟩
set_option maxHeartbeats 4000000 in
set_option maxRecDepth 100000 in
theorem sumD_18 {w : World} {sb S T D : Nat} {s : StF} {m : Int} (h : StB w sb s) (hR : RegsOK s.r) (hS : S < 32) (hT : T < 32) (hD : D < 32) (m0 : 0 ≤ m) (m1 : m < 4294967296) :
    Calls Tryz.prog 107 #[.pointer (some ⟨sb, 0, none⟩), insA 18 S T D m] w fun e w' => match divZ (s.r S) (s.r T) false with | some q => SumTo w sb s s.r q.2 q.1 e w' | none => SumTo w sb s s.r s.hi s.lo e w' := by
  by_cases hz0 : s.r T = 0
  · have hv : divZ (s.r S) (s.r T) false = none := by unfold divZ; rw [if_pos hz0]
    rw [hv]
    dsimp only
    have HC0 := Lib.hid (fun wx => divOf_0 (s.r S) false wx)
    have HZ0 := Lib.hid hz0
    clear hv hz0
    have HF0 : InsB (w.alloc (.cells #[.int .i64 18, .int .i64 (S : Int), .int .i64 (T : Int), .int .i64 (D : Int), .int .u32 m] 61)) w.heap.size 18 S T D m := Five.new w _ _ _ _ _ _
    have hb := (Below.refl w.heap.size w).alloc (Nat.le_refl _) (.cells #[.int .i64 18, .int .i64 (S : Int), .int .i64 (T : Int), .int .i64 (D : Int), .int .u32 m] 61)
    have HS0 : StB (w.alloc (.cells #[.int .i64 18, .int .i64 (S : Int), .int .i64 (T : Int), .int .i64 (D : Int), .int .u32 m] 61)) sb s := h.of_block (hb.block sb h.lt)
    have HK0 := Lib.hid (Kept.of_below (S := fun k => k = sb) hb)
    have HLT := Lib.hid h.lt
    have HF := Lib.hid HF0
    have HS := Lib.hid HS0
    have HSZ := Lib.hid (show w.heap.size < (w.alloc (.cells #[.int .i64 18, .int .i64 (S : Int), .int .i64 (T : Int), .int .i64 (D : Int), .int .u32 m] 61)).heap.size by simp)
    have HN := Lib.hid (And.intro hS (And.intro hT hD))
    have HRR := Lib.hid hR
    have iS : (S : Int) < 32 := by omega
    have iT : (T : Int) < 32 := by omega
    have iD : (D : Int) < 32 := by omega
    clear h hb HF0 HS0 hS hT hD hR m0 m1
    go_enter Tryz.func107, Tryz.ntmps107
    go_wp2_with fail
    generalize w.alloc (.cells #[.int .i64 18, .int .i64 (S : Int), .int .i64 (T : Int), .int .i64 (D : Int), .int .u32 m] 61) = W at *
    obtain ⟨c0, c1, c2, c3, c4⟩ := Five.cells HF.out
    have hx := HS.out.reg HN.out.1
    go_still (by kernel_rfl)
    change Exit.then _ _ Exit.normal _ W.drew
    have HF1 := Lib.hid (InsB.drew HF.out)
    have HS1 := Lib.hid (StB.drew HS.out)
    have HK1 := Lib.hid (Kept.trans HK0.out (Kept.of_below (Below.refl _ W).drew))
    have HSZ1 : Hid (w.heap.size < W.drew.heap.size) := HSZ
    clear c0 c1 c2 c3 c4 hx HF HS HK0 HSZ
    generalize W.drew = W1 at *
    go_wp2_with fail
    obtain ⟨c0, c1, c2, c3, c4⟩ := Five.cells HF1.out
    have hy := HS1.out.reg HN.out.2.1
    rw [HZ0.out] at hy
    go_still (by kernel_rfl)
    change Exit.then _ _ Exit.normal _ W1.drew
    have HF2 := Lib.hid (InsB.drew HF1.out)
    have HS2 := Lib.hid (StB.drew HS1.out)
    have HK2 := Lib.hid (Kept.trans HK1.out (Kept.of_below (Below.refl _ W1).drew))
    have HSZ2 : Hid (w.heap.size < W1.drew.heap.size) := HSZ1
    clear c0 c1 c2 c3 c4 hy HF1 HS1 HK1 HSZ1
    generalize W1.drew = W2 at *
    obtain ⟨c0, c1, c2, c3, c4⟩ := Five.cells HF2.out
    go_wp2_with fail
    refine (HC0.out _).mono ?_
    rintro e w1 ⟨rfl, rfl⟩
    go_wp2
    go_ret
    exact ⟨rfl, HS2.out, HK2.out⟩
  · have hp : 0 < s.r T := by have := (hR T).1; omega
    have hv : divZ (s.r S) (s.r T) false = some ((s.r S / s.r T), (s.r S % s.r T)) := by unfold divZ; rw [if_neg hz0]; rfl
    rw [hv]
    dsimp only
    have HC0 := Lib.hid (fun wx => divOf_u (s.r S) (s.r T) (hR S).1 (hR S).2 hp (hR T).2 wx)
    generalize (s.r S / s.r T) = z1 at HC0 ⊢
    generalize (s.r S % s.r T) = z2 at HC0 ⊢
    clear hv hz0 hp
    have HF0 : InsB (w.alloc (.cells #[.int .i64 18, .int .i64 (S : Int), .int .i64 (T : Int), .int .i64 (D : Int), .int .u32 m] 61)) w.heap.size 18 S T D m := Five.new w _ _ _ _ _ _
    have hb := (Below.refl w.heap.size w).alloc (Nat.le_refl _) (.cells #[.int .i64 18, .int .i64 (S : Int), .int .i64 (T : Int), .int .i64 (D : Int), .int .u32 m] 61)
    have HS0 : StB (w.alloc (.cells #[.int .i64 18, .int .i64 (S : Int), .int .i64 (T : Int), .int .i64 (D : Int), .int .u32 m] 61)) sb s := h.of_block (hb.block sb h.lt)
    have HK0 := Lib.hid (Kept.of_below (S := fun k => k = sb) hb)
    have HLT := Lib.hid h.lt
    have HF := Lib.hid HF0
    have HS := Lib.hid HS0
    have HSZ := Lib.hid (show w.heap.size < (w.alloc (.cells #[.int .i64 18, .int .i64 (S : Int), .int .i64 (T : Int), .int .i64 (D : Int), .int .u32 m] 61)).heap.size by simp)
    have HN := Lib.hid (And.intro hS (And.intro hT hD))
    have HRR := Lib.hid hR
    have iS : (S : Int) < 32 := by omega
    have iT : (T : Int) < 32 := by omega
    have iD : (D : Int) < 32 := by omega
    clear h hb HF0 HS0 hS hT hD hR m0 m1
    go_enter Tryz.func107, Tryz.ntmps107
    go_wp2_with fail
    generalize w.alloc (.cells #[.int .i64 18, .int .i64 (S : Int), .int .i64 (T : Int), .int .i64 (D : Int), .int .u32 m] 61) = W at *
    obtain ⟨c0, c1, c2, c3, c4⟩ := Five.cells HF.out
    have hx := HS.out.reg HN.out.1
    go_still (by kernel_rfl)
    change Exit.then _ _ Exit.normal _ W.drew
    have HF1 := Lib.hid (InsB.drew HF.out)
    have HS1 := Lib.hid (StB.drew HS.out)
    have HK1 := Lib.hid (Kept.trans HK0.out (Kept.of_below (Below.refl _ W).drew))
    have HSZ1 : Hid (w.heap.size < W.drew.heap.size) := HSZ
    clear c0 c1 c2 c3 c4 hx HF HS HK0 HSZ
    generalize W.drew = W1 at *
    go_wp2_with fail
    obtain ⟨c0, c1, c2, c3, c4⟩ := Five.cells HF1.out
    have hy := HS1.out.reg HN.out.2.1
    go_still (by kernel_rfl)
    change Exit.then _ _ Exit.normal _ W1.drew
    have HF2 := Lib.hid (InsB.drew HF1.out)
    have HS2 := Lib.hid (StB.drew HS1.out)
    have HK2 := Lib.hid (Kept.trans HK1.out (Kept.of_below (Below.refl _ W1).drew))
    have HSZ2 : Hid (w.heap.size < W1.drew.heap.size) := HSZ1
    clear c0 c1 c2 c3 c4 hy HF1 HS1 HK1 HSZ1
    generalize W1.drew = W2 at *
    obtain ⟨c0, c1, c2, c3, c4⟩ := Five.cells HF2.out
    go_wp2_with fail
    refine (HC0.out _).mono ?_
    rintro e w1 ⟨rfl, hb1⟩
    have HS2' := Lib.hid (show StB w1 sb s from Row.of_block (w' := w1) HS2.out (hb1.block sb HS2.out.lt))
    have HK2' := Lib.hid (HK2.out.trans (Kept.of_below hb1))
    clear hb1 c0 c1 c2 c3 c4
    have hz := HS2'.out.cell (show 33 < 43 by decide)
    have hzf := HS2'.out.free 33
    have HS3 := StB.setLo HS2'.out z1
    have hz2 := HS3.cell (show 32 < 43 by decide)
    have hzf2 := HS3.free 32
    have HS4 := Lib.hid (StB.setHi HS3 z2)
    have HK3 := Lib.hid ((HK2'.out.trans (Kept.set w1 sb 33 (.int .u32 z1))).trans (Kept.set _ sb 32 (.int .u32 z2)))
    clear HS3
    simp only [stG] at hz hz2
    go_wp2
    go_ret
    exact ⟨rfl, HS4.out, HK3.out⟩
set_option maxHeartbeats 4000000 in
set_option maxRecDepth 100000 in
theorem sumD_19 {w : World} {sb S T D : Nat} {s : StF} {m : Int} (h : StB w sb s) (hR : RegsOK s.r) (hS : S < 32) (hT : T < 32) (hD : D < 32) (m0 : 0 ≤ m) (m1 : m < 4294967296) :
    Calls Tryz.prog 107 #[.pointer (some ⟨sb, 0, none⟩), insA 19 S T D m] w fun e w' => if fitsZ (wrap32 (s.r S) + wrap32 (s.r T)) = true then SumTo w sb s (updR s.r D (sumZ .add (s.r S) (s.r T))) s.hi s.lo e w' else SumOv w sb s e w' := by
  have HC0 := Lib.hid (fun wx => (kindS_19 wx).mono (fun _ _ h => And.intro h.1 h.2.symm))
  have HC1 := Lib.hid (fun wx => (sumOf_add (s.r S) (s.r T) (hR S).1 (hR S).2 (hR T).1 (hR T).2 wx).mono (fun _ _ h => And.intro h.1 h.2.symm))
  have HC2 := Lib.hid (fun wx => signed_val (s.r S) (hR S).1 (hR S).2 wx)
  have HC3 := Lib.hid (fun wx => signed_val (s.r T) (hR T).1 (hR T).2 wx)
  have HC4 := Lib.hid (fun wx => isSigned_any (wrap32 (s.r S) + wrap32 (s.r T)) wx)
  have r0 := wrap32_range (s.r S)
  have r1 := wrap32_range (s.r T)
  have hw : IntKind.i64.wrap (wrap32 (s.r S) + wrap32 (s.r T)) = wrap32 (s.r S) + wrap32 (s.r T) := IntWalk.i64_in _ ⟨by omega, by omega⟩
  clear r0 r1
  generalize sumZ .add (s.r S) (s.r T) = z at HC1 ⊢
  generalize wrap32 (s.r S) = p at *
  generalize wrap32 (s.r T) = q at *
  cases hf : fitsZ (p + q) with
  | true =>
    rw [hf] at HC4
    show Calls _ _ _ _ fun e w' => SumTo w sb s (updR s.r D z) s.hi s.lo e w'
    clear hf
    have HF0 : InsB (w.alloc (.cells #[.int .i64 19, .int .i64 (S : Int), .int .i64 (T : Int), .int .i64 (D : Int), .int .u32 m] 61)) w.heap.size 19 S T D m := Five.new w _ _ _ _ _ _
    have hb := (Below.refl w.heap.size w).alloc (Nat.le_refl _) (.cells #[.int .i64 19, .int .i64 (S : Int), .int .i64 (T : Int), .int .i64 (D : Int), .int .u32 m] 61)
    have HS0 : StB (w.alloc (.cells #[.int .i64 19, .int .i64 (S : Int), .int .i64 (T : Int), .int .i64 (D : Int), .int .u32 m] 61)) sb s := h.of_block (hb.block sb h.lt)
    have HK0 := Lib.hid (Kept.of_below (S := fun k => k = sb) hb)
    have HLT := Lib.hid h.lt
    have HF := Lib.hid HF0
    have HS := Lib.hid HS0
    have HSZ := Lib.hid (show w.heap.size < (w.alloc (.cells #[.int .i64 19, .int .i64 (S : Int), .int .i64 (T : Int), .int .i64 (D : Int), .int .u32 m] 61)).heap.size by simp)
    have HN := Lib.hid (And.intro hS (And.intro hT hD))
    have HRR := Lib.hid hR
    have iS : (S : Int) < 32 := by omega
    have iT : (T : Int) < 32 := by omega
    have iD : (D : Int) < 32 := by omega
    clear h hb HF0 HS0 hS hT hD hR m0 m1
    go_enter Tryz.func107, Tryz.ntmps107
    go_wp2_with fail
    generalize w.alloc (.cells #[.int .i64 19, .int .i64 (S : Int), .int .i64 (T : Int), .int .i64 (D : Int), .int .u32 m] 61) = W at *
    obtain ⟨c0, c1, c2, c3, c4⟩ := Five.cells HF.out
    have hx := HS.out.reg HN.out.1
    go_still (by kernel_rfl)
    change Exit.then _ _ Exit.normal _ W.drew
    have HF1 := Lib.hid (InsB.drew HF.out)
    have HS1 := Lib.hid (StB.drew HS.out)
    have HK1 := Lib.hid (Kept.trans HK0.out (Kept.of_below (Below.refl _ W).drew))
    have HSZ1 : Hid (w.heap.size < W.drew.heap.size) := HSZ
    clear c0 c1 c2 c3 c4 hx HF HS HK0 HSZ
    generalize W.drew = W1 at *
    go_wp2_with fail
    obtain ⟨c0, c1, c2, c3, c4⟩ := Five.cells HF1.out
    have hy := HS1.out.reg HN.out.2.1
    go_still (by kernel_rfl)
    change Exit.then _ _ Exit.normal _ W1.drew
    have HF2 := Lib.hid (InsB.drew HF1.out)
    have HS2 := Lib.hid (StB.drew HS1.out)
    have HK2 := Lib.hid (Kept.trans HK1.out (Kept.of_below (Below.refl _ W1).drew))
    have HSZ2 : Hid (w.heap.size < W1.drew.heap.size) := HSZ1
    clear c0 c1 c2 c3 c4 hy HF1 HS1 HK1 HSZ1
    generalize W1.drew = W2 at *
    obtain ⟨c0, c1, c2, c3, c4⟩ := Five.cells HF2.out
    go_wp2_with fail
    refine (HC2.out _).mono ?_
    rintro e w1 ⟨rfl, rfl⟩
    go_wp2_with fail
    refine (HC3.out _).mono ?_
    rintro e w1 ⟨rfl, rfl⟩
    go_wp2_with fail
    refine (HC4.out _).mono ?_
    rintro e w1 ⟨rfl, rfl⟩
    go_wp2_with fail
    have hz := HS2.out.reg HN.out.2.2
    have hzf := HS2.out.free D
    have HS3 := Lib.hid (StB.setReg (StB.drew HS2.out) HN.out.2.2 z)
    have HK3 := Lib.hid ((HK2.out.trans (Kept.of_below (Below.refl _ W2).drew)).trans (Kept.set W2.drew sb D (.int .u32 z)))
    refine wp_region_still_tail 12 (by kernel_rfl) (by kernel_rfl) ?_
    simp only [List.take_succ_cons, List.take_zero, List.drop_succ_cons, List.drop_zero]
    repeat still_step
    still_call (HC0.out _)
    repeat still_step
    still_call (HC1.out _)
    repeat still_step
    try refine wpStill_nil ?_
    change wpList _ _ _ _ _ W2.drew
    have hzd : W2.drew.cell? ⟨sb, D, none⟩ = some _ := hz
    have hzfd : W2.drew.frozen? ⟨sb, D, none⟩ = false := hzf
    clear hz hzf c0 c1 c2 c3 c4
    generalize W2.drew = W3 at *
    go_wp2
    go_ret
    exact ⟨rfl, HS3.out, HK3.out⟩
  | false =>
    rw [hf] at HC4
    show Calls _ _ _ _ fun e w' => SumOv w sb s e w'
    clear hf
    have HF0 : InsB (w.alloc (.cells #[.int .i64 19, .int .i64 (S : Int), .int .i64 (T : Int), .int .i64 (D : Int), .int .u32 m] 61)) w.heap.size 19 S T D m := Five.new w _ _ _ _ _ _
    have hb := (Below.refl w.heap.size w).alloc (Nat.le_refl _) (.cells #[.int .i64 19, .int .i64 (S : Int), .int .i64 (T : Int), .int .i64 (D : Int), .int .u32 m] 61)
    have HS0 : StB (w.alloc (.cells #[.int .i64 19, .int .i64 (S : Int), .int .i64 (T : Int), .int .i64 (D : Int), .int .u32 m] 61)) sb s := h.of_block (hb.block sb h.lt)
    have HK0 := Lib.hid (Kept.of_below (S := fun k => k = sb) hb)
    have HLT := Lib.hid h.lt
    have HF := Lib.hid HF0
    have HS := Lib.hid HS0
    have HSZ := Lib.hid (show w.heap.size < (w.alloc (.cells #[.int .i64 19, .int .i64 (S : Int), .int .i64 (T : Int), .int .i64 (D : Int), .int .u32 m] 61)).heap.size by simp)
    have HN := Lib.hid (And.intro hS (And.intro hT hD))
    have HRR := Lib.hid hR
    have iS : (S : Int) < 32 := by omega
    have iT : (T : Int) < 32 := by omega
    have iD : (D : Int) < 32 := by omega
    clear h hb HF0 HS0 hS hT hD hR m0 m1
    go_enter Tryz.func107, Tryz.ntmps107
    go_wp2_with fail
    generalize w.alloc (.cells #[.int .i64 19, .int .i64 (S : Int), .int .i64 (T : Int), .int .i64 (D : Int), .int .u32 m] 61) = W at *
    obtain ⟨c0, c1, c2, c3, c4⟩ := Five.cells HF.out
    have hx := HS.out.reg HN.out.1
    go_still (by kernel_rfl)
    change Exit.then _ _ Exit.normal _ W.drew
    have HF1 := Lib.hid (InsB.drew HF.out)
    have HS1 := Lib.hid (StB.drew HS.out)
    have HK1 := Lib.hid (Kept.trans HK0.out (Kept.of_below (Below.refl _ W).drew))
    have HSZ1 : Hid (w.heap.size < W.drew.heap.size) := HSZ
    clear c0 c1 c2 c3 c4 hx HF HS HK0 HSZ
    generalize W.drew = W1 at *
    go_wp2_with fail
    obtain ⟨c0, c1, c2, c3, c4⟩ := Five.cells HF1.out
    have hy := HS1.out.reg HN.out.2.1
    go_still (by kernel_rfl)
    change Exit.then _ _ Exit.normal _ W1.drew
    have HF2 := Lib.hid (InsB.drew HF1.out)
    have HS2 := Lib.hid (StB.drew HS1.out)
    have HK2 := Lib.hid (Kept.trans HK1.out (Kept.of_below (Below.refl _ W1).drew))
    have HSZ2 : Hid (w.heap.size < W1.drew.heap.size) := HSZ1
    clear c0 c1 c2 c3 c4 hy HF1 HS1 HK1 HSZ1
    generalize W1.drew = W2 at *
    obtain ⟨c0, c1, c2, c3, c4⟩ := Five.cells HF2.out
    go_wp2_with fail
    refine (HC2.out _).mono ?_
    rintro e w1 ⟨rfl, rfl⟩
    go_wp2_with fail
    refine (HC3.out _).mono ?_
    rintro e w1 ⟨rfl, rfl⟩
    go_wp2_with fail
    refine (HC4.out _).mono ?_
    rintro e w1 ⟨rfl, rfl⟩
    go_wp2
    go_ret
    exact ⟨rfl, HS2.out, HK2.out⟩
set_option maxHeartbeats 4000000 in
set_option maxRecDepth 100000 in
theorem sumD_21 {w : World} {sb S T D : Nat} {s : StF} {m : Int} (h : StB w sb s) (hR : RegsOK s.r) (hS : S < 32) (hT : T < 32) (hD : D < 32) (m0 : 0 ≤ m) (m1 : m < 4294967296) :
    Calls Tryz.prog 107 #[.pointer (some ⟨sb, 0, none⟩), insA 21 S T D m] w fun e w' => if fitsZ (wrap32 (s.r S) - wrap32 (s.r T)) = true then SumTo w sb s (updR s.r D (sumZ .sub (s.r S) (s.r T))) s.hi s.lo e w' else SumOv w sb s e w' := by
  have HC0 := Lib.hid (fun wx => (kindS_21 wx).mono (fun _ _ h => And.intro h.1 h.2.symm))
  have HC1 := Lib.hid (fun wx => (sumOf_sub (s.r S) (s.r T) (hR S).1 (hR S).2 (hR T).1 (hR T).2 wx).mono (fun _ _ h => And.intro h.1 h.2.symm))
  have HC2 := Lib.hid (fun wx => signed_val (s.r S) (hR S).1 (hR S).2 wx)
  have HC3 := Lib.hid (fun wx => signed_val (s.r T) (hR T).1 (hR T).2 wx)
  have HC4 := Lib.hid (fun wx => isSigned_any (wrap32 (s.r S) - wrap32 (s.r T)) wx)
  have r0 := wrap32_range (s.r S)
  have r1 := wrap32_range (s.r T)
  have hw : IntKind.i64.wrap (wrap32 (s.r S) - wrap32 (s.r T)) = wrap32 (s.r S) - wrap32 (s.r T) := IntWalk.i64_in _ ⟨by omega, by omega⟩
  clear r0 r1
  generalize sumZ .sub (s.r S) (s.r T) = z at HC1 ⊢
  generalize wrap32 (s.r S) = p at *
  generalize wrap32 (s.r T) = q at *
  cases hf : fitsZ (p - q) with
  | true =>
    rw [hf] at HC4
    show Calls _ _ _ _ fun e w' => SumTo w sb s (updR s.r D z) s.hi s.lo e w'
    clear hf
    have HF0 : InsB (w.alloc (.cells #[.int .i64 21, .int .i64 (S : Int), .int .i64 (T : Int), .int .i64 (D : Int), .int .u32 m] 61)) w.heap.size 21 S T D m := Five.new w _ _ _ _ _ _
    have hb := (Below.refl w.heap.size w).alloc (Nat.le_refl _) (.cells #[.int .i64 21, .int .i64 (S : Int), .int .i64 (T : Int), .int .i64 (D : Int), .int .u32 m] 61)
    have HS0 : StB (w.alloc (.cells #[.int .i64 21, .int .i64 (S : Int), .int .i64 (T : Int), .int .i64 (D : Int), .int .u32 m] 61)) sb s := h.of_block (hb.block sb h.lt)
    have HK0 := Lib.hid (Kept.of_below (S := fun k => k = sb) hb)
    have HLT := Lib.hid h.lt
    have HF := Lib.hid HF0
    have HS := Lib.hid HS0
    have HSZ := Lib.hid (show w.heap.size < (w.alloc (.cells #[.int .i64 21, .int .i64 (S : Int), .int .i64 (T : Int), .int .i64 (D : Int), .int .u32 m] 61)).heap.size by simp)
    have HN := Lib.hid (And.intro hS (And.intro hT hD))
    have HRR := Lib.hid hR
    have iS : (S : Int) < 32 := by omega
    have iT : (T : Int) < 32 := by omega
    have iD : (D : Int) < 32 := by omega
    clear h hb HF0 HS0 hS hT hD hR m0 m1
    go_enter Tryz.func107, Tryz.ntmps107
    go_wp2_with fail
    generalize w.alloc (.cells #[.int .i64 21, .int .i64 (S : Int), .int .i64 (T : Int), .int .i64 (D : Int), .int .u32 m] 61) = W at *
    obtain ⟨c0, c1, c2, c3, c4⟩ := Five.cells HF.out
    have hx := HS.out.reg HN.out.1
    go_still (by kernel_rfl)
    change Exit.then _ _ Exit.normal _ W.drew
    have HF1 := Lib.hid (InsB.drew HF.out)
    have HS1 := Lib.hid (StB.drew HS.out)
    have HK1 := Lib.hid (Kept.trans HK0.out (Kept.of_below (Below.refl _ W).drew))
    have HSZ1 : Hid (w.heap.size < W.drew.heap.size) := HSZ
    clear c0 c1 c2 c3 c4 hx HF HS HK0 HSZ
    generalize W.drew = W1 at *
    go_wp2_with fail
    obtain ⟨c0, c1, c2, c3, c4⟩ := Five.cells HF1.out
    have hy := HS1.out.reg HN.out.2.1
    go_still (by kernel_rfl)
    change Exit.then _ _ Exit.normal _ W1.drew
    have HF2 := Lib.hid (InsB.drew HF1.out)
    have HS2 := Lib.hid (StB.drew HS1.out)
    have HK2 := Lib.hid (Kept.trans HK1.out (Kept.of_below (Below.refl _ W1).drew))
    have HSZ2 : Hid (w.heap.size < W1.drew.heap.size) := HSZ1
    clear c0 c1 c2 c3 c4 hy HF1 HS1 HK1 HSZ1
    generalize W1.drew = W2 at *
    obtain ⟨c0, c1, c2, c3, c4⟩ := Five.cells HF2.out
    go_wp2_with fail
    refine (HC2.out _).mono ?_
    rintro e w1 ⟨rfl, rfl⟩
    go_wp2_with fail
    refine (HC3.out _).mono ?_
    rintro e w1 ⟨rfl, rfl⟩
    go_wp2_with fail
    refine (HC4.out _).mono ?_
    rintro e w1 ⟨rfl, rfl⟩
    go_wp2_with fail
    have hz := HS2.out.reg HN.out.2.2
    have hzf := HS2.out.free D
    have HS3 := Lib.hid (StB.setReg (StB.drew HS2.out) HN.out.2.2 z)
    have HK3 := Lib.hid ((HK2.out.trans (Kept.of_below (Below.refl _ W2).drew)).trans (Kept.set W2.drew sb D (.int .u32 z)))
    refine wp_region_still_tail 12 (by kernel_rfl) (by kernel_rfl) ?_
    simp only [List.take_succ_cons, List.take_zero, List.drop_succ_cons, List.drop_zero]
    repeat still_step
    still_call (HC0.out _)
    repeat still_step
    still_call (HC1.out _)
    repeat still_step
    try refine wpStill_nil ?_
    change wpList _ _ _ _ _ W2.drew
    have hzd : W2.drew.cell? ⟨sb, D, none⟩ = some _ := hz
    have hzfd : W2.drew.frozen? ⟨sb, D, none⟩ = false := hzf
    clear hz hzf c0 c1 c2 c3 c4
    generalize W2.drew = W3 at *
    go_wp2
    go_ret
    exact ⟨rfl, HS3.out, HK3.out⟩
  | false =>
    rw [hf] at HC4
    show Calls _ _ _ _ fun e w' => SumOv w sb s e w'
    clear hf
    have HF0 : InsB (w.alloc (.cells #[.int .i64 21, .int .i64 (S : Int), .int .i64 (T : Int), .int .i64 (D : Int), .int .u32 m] 61)) w.heap.size 21 S T D m := Five.new w _ _ _ _ _ _
    have hb := (Below.refl w.heap.size w).alloc (Nat.le_refl _) (.cells #[.int .i64 21, .int .i64 (S : Int), .int .i64 (T : Int), .int .i64 (D : Int), .int .u32 m] 61)
    have HS0 : StB (w.alloc (.cells #[.int .i64 21, .int .i64 (S : Int), .int .i64 (T : Int), .int .i64 (D : Int), .int .u32 m] 61)) sb s := h.of_block (hb.block sb h.lt)
    have HK0 := Lib.hid (Kept.of_below (S := fun k => k = sb) hb)
    have HLT := Lib.hid h.lt
    have HF := Lib.hid HF0
    have HS := Lib.hid HS0
    have HSZ := Lib.hid (show w.heap.size < (w.alloc (.cells #[.int .i64 21, .int .i64 (S : Int), .int .i64 (T : Int), .int .i64 (D : Int), .int .u32 m] 61)).heap.size by simp)
    have HN := Lib.hid (And.intro hS (And.intro hT hD))
    have HRR := Lib.hid hR
    have iS : (S : Int) < 32 := by omega
    have iT : (T : Int) < 32 := by omega
    have iD : (D : Int) < 32 := by omega
    clear h hb HF0 HS0 hS hT hD hR m0 m1
    go_enter Tryz.func107, Tryz.ntmps107
    go_wp2_with fail
    generalize w.alloc (.cells #[.int .i64 21, .int .i64 (S : Int), .int .i64 (T : Int), .int .i64 (D : Int), .int .u32 m] 61) = W at *
    obtain ⟨c0, c1, c2, c3, c4⟩ := Five.cells HF.out
    have hx := HS.out.reg HN.out.1
    go_still (by kernel_rfl)
    change Exit.then _ _ Exit.normal _ W.drew
    have HF1 := Lib.hid (InsB.drew HF.out)
    have HS1 := Lib.hid (StB.drew HS.out)
    have HK1 := Lib.hid (Kept.trans HK0.out (Kept.of_below (Below.refl _ W).drew))
    have HSZ1 : Hid (w.heap.size < W.drew.heap.size) := HSZ
    clear c0 c1 c2 c3 c4 hx HF HS HK0 HSZ
    generalize W.drew = W1 at *
    go_wp2_with fail
    obtain ⟨c0, c1, c2, c3, c4⟩ := Five.cells HF1.out
    have hy := HS1.out.reg HN.out.2.1
    go_still (by kernel_rfl)
    change Exit.then _ _ Exit.normal _ W1.drew
    have HF2 := Lib.hid (InsB.drew HF1.out)
    have HS2 := Lib.hid (StB.drew HS1.out)
    have HK2 := Lib.hid (Kept.trans HK1.out (Kept.of_below (Below.refl _ W1).drew))
    have HSZ2 : Hid (w.heap.size < W1.drew.heap.size) := HSZ1
    clear c0 c1 c2 c3 c4 hy HF1 HS1 HK1 HSZ1
    generalize W1.drew = W2 at *
    obtain ⟨c0, c1, c2, c3, c4⟩ := Five.cells HF2.out
    go_wp2_with fail
    refine (HC2.out _).mono ?_
    rintro e w1 ⟨rfl, rfl⟩
    go_wp2_with fail
    refine (HC3.out _).mono ?_
    rintro e w1 ⟨rfl, rfl⟩
    go_wp2_with fail
    refine (HC4.out _).mono ?_
    rintro e w1 ⟨rfl, rfl⟩
    go_wp2
    go_ret
    exact ⟨rfl, HS2.out, HK2.out⟩
end Go.Proofs.YtadoaldnjnkhgaaGreatDoor
