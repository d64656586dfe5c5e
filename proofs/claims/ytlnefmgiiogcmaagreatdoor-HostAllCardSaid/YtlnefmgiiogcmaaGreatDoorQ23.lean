/- The walks of ir's do at copy, over+, over-. The walk of ir's do at a load. Maps from ints to ints, or to bools, by what stands at each key. The program's memory: word.Wide, ram's right, Load, Watched. The walk of (*ram.Ram).Store. Plain: a word's byte replaced; stores that wait. No program in sight. Plain: stores that wait, byte by byte. No program in sight. Conditions: as each theorem states. -/
import Derived.Test.YtlnefmgiiogcmaaGreatDoorQ20
import Derived.Test.YtlnefmgiiogcmaaGreatDoorQ01
import Derived.Test.YtlnefmgiiogcmaaGreatDoorQ08
import Derived.Maps.OwnSet
import Derived.Test.YtlnefmgiiogcmaaGreatDoorQ18
import Derived.Laws.BitsAllLaws
import Derived.StillTailTactics
set_option linter.unusedVariables false
set_option linter.unusedSimpArgs false
namespace Go.Proofs.YtlnefmgiiogcmaaGreatDoor
open Go.RowKit
set_option maxHeartbeats 4000000 in
set_option maxRecDepth 100000 in
theorem doP_copy {w : World} {mb d a n : Nat} {b im : Int} {X : Regs} {rv wv : Value} (h : MpB w mb X rv wv) (hd : d < 64) (ha : a < 64) (hb0 : 0 ≤ b) (hb1 : b < 64) :
    Calls Tryz.prog 33 #[.pointer (some ⟨mb, 0, none⟩), .agg #[.string ⟨#[99, 111, 112, 121]⟩, .int .i64 (d : Int), .int .i64 (a : Int), .int .i64 b, .int .u32 im, .int .i64 (n : Int)]] w fun e w' => e = .returned (.bool true) ∧ MpB w' mb (updR X d (X a)) rv wv ∧ Kept (fun k => k = mb) w w' := by
  obtain ⟨bn, rfl⟩ := Int.eq_ofNat_of_zero_le hb0
  have hbn : bn < 64 := by omega
  have hb' := (Below.refl w.heap.size w).alloc (Nat.le_refl _) (.cells #[.string ⟨#[99, 111, 112, 121]⟩, .int .i64 (d : Int), .int .i64 (a : Int), .int .i64 (bn : Int), .int .u32 im, .int .i64 (n : Int)] 61)
  have HM0 : Hid (MpB (w.alloc (.cells #[.string ⟨#[99, 111, 112, 121]⟩, .int .i64 (d : Int), .int .i64 (a : Int), .int .i64 (bn : Int), .int .u32 im, .int .i64 (n : Int)] 61)) mb X rv wv) := Lib.hid (h.of_block (hb'.block mb h.lt))
  have HBX : Hid ((w.alloc (.cells #[.string ⟨#[99, 111, 112, 121]⟩, .int .i64 (d : Int), .int .i64 (a : Int), .int .i64 (bn : Int), .int .u32 im, .int .i64 (n : Int)] 61)).heap[w.heap.size]? = some (.cells #[.string ⟨#[99, 111, 112, 121]⟩, .int .i64 (d : Int), .int .i64 (a : Int), .int .i64 (bn : Int), .int .u32 im, .int .i64 (n : Int)] 61 (0, 0))) := Lib.hid (heap_alloc_new w _)
  have HK0 := Lib.hid (Kept.of_below (S := fun k => k = mb) hb')
  have HLT := Lib.hid h.lt
  have HN := Lib.hid (And.intro hd (And.intro ha hbn))
  have iD : (d : Int) < 64 := by omega
  have iA : (a : Int) < 64 := by omega
  have iB : (bn : Int) < 64 := by omega
  clear h hb' hd ha hb0 hb1 hbn
  go_enter Tryz.func33, Tryz.ntmps33
  go_wp2_with fail
  generalize w.alloc (.cells #[.string ⟨#[99, 111, 112, 121]⟩, .int .i64 (d : Int), .int .i64 (a : Int), .int .i64 (bn : Int), .int .u32 im, .int .i64 (n : Int)] 61) = W at *
  obtain ⟨c0, c1, c2, c3, c4, c5⟩ := six_cells HBX.out
  have hx := HM0.out.reg HN.out.2.1
  go_still (by kernel_rfl)
  change Exit.then _ _ Exit.normal _ W.drew
  have HBX1 : Hid (W.drew.heap[w.heap.size]? = _) := HBX
  have HM1 := Lib.hid (show MpB W.drew mb X rv wv from HM0.out.of_block rfl)
  have HK1 := Lib.hid (HK0.out.trans (Kept.of_below (Below.refl _ W).drew))
  clear c0 c1 c2 c3 c4 c5 hx HBX HM0 HK0
  generalize W.drew = W1 at *
  obtain ⟨c0, c1, c2, c3, c4, c5⟩ := six_cells HBX1.out
  go_wp2_with fail
  have hy := HM1.out.reg HN.out.2.2
  go_still (by kernel_rfl)
  change Exit.then _ _ Exit.normal _ W1.drew
  have HBX2 : Hid (W1.drew.heap[w.heap.size]? = _) := HBX1
  have HM2 := Lib.hid (show MpB W1.drew mb X rv wv from HM1.out.of_block rfl)
  have HK2 := Lib.hid (HK1.out.trans (Kept.of_below (Below.refl _ W1).drew))
  clear c0 c1 c2 c3 c4 c5 hy HBX1 HM1 HK1
  generalize W1.drew = W2 at *
  obtain ⟨c0, c1, c2, c3, c4, c5⟩ := six_cells HBX2.out
  go_wp2_with fail
  have hz := HM2.out.reg HN.out.1
  have hzf := HM2.out.free d
  have HM3 := Lib.hid ((show MpB W2.drew mb X rv wv from HM2.out.of_block rfl).set HN.out.1 (X a))
  have HK3 := Lib.hid ((HK2.out.trans (Kept.of_below (Below.refl _ W2).drew)).trans (Kept.set W2.drew mb d (.int .u32 (X a))))
  refine wp_region_still_tail 7 (by kernel_rfl) (by kernel_rfl) ?_
  simp only [List.take_succ_cons, List.take_zero, List.drop_succ_cons, List.drop_zero]
  repeat still_step
  try refine wpStill_nil ?_
  change wpList _ _ _ _ _ W2.drew
  have hzd : W2.drew.cell? ⟨mb, d, none⟩ = some _ := hz
  have hzfd : W2.drew.frozen? ⟨mb, d, none⟩ = false := hzf
  clear hz hzf c0 c1 c2 c3 c4 c5
  generalize W2.drew = W3 at *
  go_wp2
  go_ret
  exact ⟨rfl, HM3.out, HK3.out⟩
set_option maxHeartbeats 4000000 in
set_option maxRecDepth 100000 in
theorem doP_overP {X : Regs} (hR : RegsOK X) {w : World} {mb d a n : Nat} {b im : Int} {rv wv : Value} (h : MpB w mb X rv wv) (hd : d < 64) (ha : a < 64) (hb0 : 0 ≤ b) (hb1 : b < 64) :
    Calls Tryz.prog 33 #[.pointer (some ⟨mb, 0, none⟩), .agg #[.string ⟨#[111, 118, 101, 114, 43]⟩, .int .i64 (d : Int), .int .i64 (a : Int), .int .i64 b, .int .u32 im, .int .i64 (n : Int)]] w fun e w' => e = .returned (.bool (fitsZ (if OpK.overP = .overP then wrap32 (X a) + wrap32 (X b.toNat) else wrap32 (X a) - wrap32 (X b.toNat)))) ∧ MpB w' mb X rv wv ∧ Kept (fun k => k = mb) w w' := by
  obtain ⟨bn, rfl⟩ := Int.eq_ofNat_of_zero_le hb0
  have hbn : bn < 64 := by omega
  have hb' := (Below.refl w.heap.size w).alloc (Nat.le_refl _) (.cells #[.string ⟨#[111, 118, 101, 114, 43]⟩, .int .i64 (d : Int), .int .i64 (a : Int), .int .i64 (bn : Int), .int .u32 im, .int .i64 (n : Int)] 61)
  have HM0 : Hid (MpB (w.alloc (.cells #[.string ⟨#[111, 118, 101, 114, 43]⟩, .int .i64 (d : Int), .int .i64 (a : Int), .int .i64 (bn : Int), .int .u32 im, .int .i64 (n : Int)] 61)) mb X rv wv) := Lib.hid (h.of_block (hb'.block mb h.lt))
  have HBX : Hid ((w.alloc (.cells #[.string ⟨#[111, 118, 101, 114, 43]⟩, .int .i64 (d : Int), .int .i64 (a : Int), .int .i64 (bn : Int), .int .u32 im, .int .i64 (n : Int)] 61)).heap[w.heap.size]? = some (.cells #[.string ⟨#[111, 118, 101, 114, 43]⟩, .int .i64 (d : Int), .int .i64 (a : Int), .int .i64 (bn : Int), .int .u32 im, .int .i64 (n : Int)] 61 (0, 0))) := Lib.hid (heap_alloc_new w _)
  have HK0 := Lib.hid (Kept.of_below (S := fun k => k = mb) hb')
  have HLT := Lib.hid h.lt
  have HV := Lib.hid (irOver_any .overP (by simp) (X a) (X bn) (hR a) (hR bn))
  show Calls _ _ _ _ fun e w' => e = .returned (.bool (fitsZ (if OpK.overP = .overP then wrap32 (X a) + wrap32 (X bn) else wrap32 (X a) - wrap32 (X bn)))) ∧ _
  simp only [OpK.lit] at HV
  generalize hq : fitsZ (if OpK.overP = .overP then wrap32 (X a) + wrap32 (X bn) else wrap32 (X a) - wrap32 (X bn)) = q at HV
  have HQ := Lib.hid hq
  clear hR hq
  have HN := Lib.hid (And.intro hd (And.intro ha hbn))
  have iD : (d : Int) < 64 := by omega
  have iA : (a : Int) < 64 := by omega
  have iB : (bn : Int) < 64 := by omega
  clear h hb' hd ha hb0 hb1 hbn
  go_enter Tryz.func33, Tryz.ntmps33
  go_wp2_with fail
  generalize w.alloc (.cells #[.string ⟨#[111, 118, 101, 114, 43]⟩, .int .i64 (d : Int), .int .i64 (a : Int), .int .i64 (bn : Int), .int .u32 im, .int .i64 (n : Int)] 61) = W at *
  obtain ⟨c0, c1, c2, c3, c4, c5⟩ := six_cells HBX.out
  have hx := HM0.out.reg HN.out.2.1
  go_still (by kernel_rfl)
  change Exit.then _ _ Exit.normal _ W.drew
  have HBX1 : Hid (W.drew.heap[w.heap.size]? = _) := HBX
  have HM1 := Lib.hid (show MpB W.drew mb X rv wv from HM0.out.of_block rfl)
  have HK1 := Lib.hid (HK0.out.trans (Kept.of_below (Below.refl _ W).drew))
  clear c0 c1 c2 c3 c4 c5 hx HBX HM0 HK0
  generalize W.drew = W1 at *
  obtain ⟨c0, c1, c2, c3, c4, c5⟩ := six_cells HBX1.out
  go_wp2_with fail
  have hy := HM1.out.reg HN.out.2.2
  go_still (by kernel_rfl)
  change Exit.then _ _ Exit.normal _ W1.drew
  have HBX2 : Hid (W1.drew.heap[w.heap.size]? = _) := HBX1
  have HM2 := Lib.hid (show MpB W1.drew mb X rv wv from HM1.out.of_block rfl)
  have HK2 := Lib.hid (HK1.out.trans (Kept.of_below (Below.refl _ W1).drew))
  clear c0 c1 c2 c3 c4 c5 hy HBX1 HM1 HK1
  generalize W1.drew = W2 at *
  obtain ⟨c0, c1, c2, c3, c4, c5⟩ := six_cells HBX2.out
  go_wp2_with fail
  refine (HV.out _).mono ?_
  rintro e w7 ⟨rfl, rfl⟩
  go_wp2_with fail
  go_ret
  exact ⟨by have h9 := HQ.out; first | (simp at h9 ⊢; exact h9) | simp [← h9], HM2.out, HK2.out⟩
set_option maxHeartbeats 4000000 in
set_option maxRecDepth 100000 in
theorem doP_overM {X : Regs} (hR : RegsOK X) {w : World} {mb d a n : Nat} {b im : Int} {rv wv : Value} (h : MpB w mb X rv wv) (hd : d < 64) (ha : a < 64) (hb0 : 0 ≤ b) (hb1 : b < 64) :
    Calls Tryz.prog 33 #[.pointer (some ⟨mb, 0, none⟩), .agg #[.string ⟨#[111, 118, 101, 114, 45]⟩, .int .i64 (d : Int), .int .i64 (a : Int), .int .i64 b, .int .u32 im, .int .i64 (n : Int)]] w fun e w' => e = .returned (.bool (fitsZ (if OpK.overM = .overP then wrap32 (X a) + wrap32 (X b.toNat) else wrap32 (X a) - wrap32 (X b.toNat)))) ∧ MpB w' mb X rv wv ∧ Kept (fun k => k = mb) w w' := by
  obtain ⟨bn, rfl⟩ := Int.eq_ofNat_of_zero_le hb0
  have hbn : bn < 64 := by omega
  have hb' := (Below.refl w.heap.size w).alloc (Nat.le_refl _) (.cells #[.string ⟨#[111, 118, 101, 114, 45]⟩, .int .i64 (d : Int), .int .i64 (a : Int), .int .i64 (bn : Int), .int .u32 im, .int .i64 (n : Int)] 61)
  have HM0 : Hid (MpB (w.alloc (.cells #[.string ⟨#[111, 118, 101, 114, 45]⟩, .int .i64 (d : Int), .int .i64 (a : Int), .int .i64 (bn : Int), .int .u32 im, .int .i64 (n : Int)] 61)) mb X rv wv) := Lib.hid (h.of_block (hb'.block mb h.lt))
  have HBX : Hid ((w.alloc (.cells #[.string ⟨#[111, 118, 101, 114, 45]⟩, .int .i64 (d : Int), .int .i64 (a : Int), .int .i64 (bn : Int), .int .u32 im, .int .i64 (n : Int)] 61)).heap[w.heap.size]? = some (.cells #[.string ⟨#[111, 118, 101, 114, 45]⟩, .int .i64 (d : Int), .int .i64 (a : Int), .int .i64 (bn : Int), .int .u32 im, .int .i64 (n : Int)] 61 (0, 0))) := Lib.hid (heap_alloc_new w _)
  have HK0 := Lib.hid (Kept.of_below (S := fun k => k = mb) hb')
  have HLT := Lib.hid h.lt
  have HV := Lib.hid (irOver_any .overM (by simp) (X a) (X bn) (hR a) (hR bn))
  show Calls _ _ _ _ fun e w' => e = .returned (.bool (fitsZ (if OpK.overM = .overP then wrap32 (X a) + wrap32 (X bn) else wrap32 (X a) - wrap32 (X bn)))) ∧ _
  simp only [OpK.lit] at HV
  generalize hq : fitsZ (if OpK.overM = .overP then wrap32 (X a) + wrap32 (X bn) else wrap32 (X a) - wrap32 (X bn)) = q at HV
  have HQ := Lib.hid hq
  clear hR hq
  have HN := Lib.hid (And.intro hd (And.intro ha hbn))
  have iD : (d : Int) < 64 := by omega
  have iA : (a : Int) < 64 := by omega
  have iB : (bn : Int) < 64 := by omega
  clear h hb' hd ha hb0 hb1 hbn
  go_enter Tryz.func33, Tryz.ntmps33
  go_wp2_with fail
  generalize w.alloc (.cells #[.string ⟨#[111, 118, 101, 114, 45]⟩, .int .i64 (d : Int), .int .i64 (a : Int), .int .i64 (bn : Int), .int .u32 im, .int .i64 (n : Int)] 61) = W at *
  obtain ⟨c0, c1, c2, c3, c4, c5⟩ := six_cells HBX.out
  have hx := HM0.out.reg HN.out.2.1
  go_still (by kernel_rfl)
  change Exit.then _ _ Exit.normal _ W.drew
  have HBX1 : Hid (W.drew.heap[w.heap.size]? = _) := HBX
  have HM1 := Lib.hid (show MpB W.drew mb X rv wv from HM0.out.of_block rfl)
  have HK1 := Lib.hid (HK0.out.trans (Kept.of_below (Below.refl _ W).drew))
  clear c0 c1 c2 c3 c4 c5 hx HBX HM0 HK0
  generalize W.drew = W1 at *
  obtain ⟨c0, c1, c2, c3, c4, c5⟩ := six_cells HBX1.out
  go_wp2_with fail
  have hy := HM1.out.reg HN.out.2.2
  go_still (by kernel_rfl)
  change Exit.then _ _ Exit.normal _ W1.drew
  have HBX2 : Hid (W1.drew.heap[w.heap.size]? = _) := HBX1
  have HM2 := Lib.hid (show MpB W1.drew mb X rv wv from HM1.out.of_block rfl)
  have HK2 := Lib.hid (HK1.out.trans (Kept.of_below (Below.refl _ W1).drew))
  clear c0 c1 c2 c3 c4 c5 hy HBX1 HM1 HK1
  generalize W1.drew = W2 at *
  obtain ⟨c0, c1, c2, c3, c4, c5⟩ := six_cells HBX2.out
  go_wp2_with fail
  refine (HV.out _).mono ?_
  rintro e w7 ⟨rfl, rfl⟩
  go_wp2_with fail
  go_ret
  exact ⟨by have h9 := HQ.out; first | (simp at h9 ⊢; exact h9) | simp [← h9], HM2.out, HK2.out⟩
end Go.Proofs.YtlnefmgiiogcmaaGreatDoor
namespace Go.Proofs.YtlnefmgiiogcmaaGreatDoor
open Go.RowKit
set_option maxHeartbeats 4000000 in
set_option maxRecDepth 100000 in
theorem doP_load {w : World} {mb d a n : Nat} {b im v : Int} {is : Bool} {X : Regs} {rv wv : Value} (h : MpB w mb X rv wv) (hd : d < 64) (ha : a < 64)
    (hL : ∀ wx, Below w.heap.size w wx → Calls Tryz.prog 58 #[.pointer (some ⟨mb, 0, none⟩), .int .u32 ((X a + im) % 4294967296), .int .i64 b] wx fun e w' => e = .returned (.tuple #[.int .u32 v, .bool is]) ∧ Below wx.heap.size wx w') :
    Calls Tryz.prog 33 #[.pointer (some ⟨mb, 0, none⟩), .agg #[.string ⟨#[108, 111, 97, 100]⟩, .int .i64 (d : Int), .int .i64 (a : Int), .int .i64 b, .int .u32 im, .int .i64 (n : Int)]] w fun e w' => e = .returned (.bool is) ∧ MpB w' mb (updR X d v) rv wv ∧ Kept (fun k => k = mb) w w' := by
  have hb' := (Below.refl w.heap.size w).alloc (Nat.le_refl _) (.cells #[.string ⟨#[108, 111, 97, 100]⟩, .int .i64 (d : Int), .int .i64 (a : Int), .int .i64 b, .int .u32 im, .int .i64 (n : Int)] 61)
  have HM0 : Hid (MpB (w.alloc (.cells #[.string ⟨#[108, 111, 97, 100]⟩, .int .i64 (d : Int), .int .i64 (a : Int), .int .i64 b, .int .u32 im, .int .i64 (n : Int)] 61)) mb X rv wv) := Lib.hid (h.of_block (hb'.block mb h.lt))
  have HBX : Hid ((w.alloc (.cells #[.string ⟨#[108, 111, 97, 100]⟩, .int .i64 (d : Int), .int .i64 (a : Int), .int .i64 b, .int .u32 im, .int .i64 (n : Int)] 61)).heap[w.heap.size]? = some (.cells #[.string ⟨#[108, 111, 97, 100]⟩, .int .i64 (d : Int), .int .i64 (a : Int), .int .i64 b, .int .u32 im, .int .i64 (n : Int)] 61 (0, 0))) := Lib.hid (heap_alloc_new w _)
  have HB0 := Lib.hid hb'
  have HSZ : Hid (w.heap.size < (w.alloc (.cells #[.string ⟨#[108, 111, 97, 100]⟩, .int .i64 (d : Int), .int .i64 (a : Int), .int .i64 b, .int .u32 im, .int .i64 (n : Int)] 61)).heap.size) := Lib.hid (by simp)
  have HLT := Lib.hid h.lt
  have HN := Lib.hid (And.intro hd ha)
  have HL := Lib.hid hL
  have iD : (d : Int) < 64 := by omega
  have iA : (a : Int) < 64 := by omega
  clear h hb' hd ha hL
  go_enter Tryz.func33, Tryz.ntmps33
  go_wp2_with fail
  generalize w.alloc (.cells #[.string ⟨#[108, 111, 97, 100]⟩, .int .i64 (d : Int), .int .i64 (a : Int), .int .i64 b, .int .u32 im, .int .i64 (n : Int)] 61) = W at *
  obtain ⟨c0, c1, c2, c3, c4, c5⟩ := six_cells HBX.out
  have hx := HM0.out.reg HN.out.2
  go_still (by kernel_rfl)
  change Exit.then _ _ Exit.normal _ W.drew
  have HBX1 : Hid (W.drew.heap[w.heap.size]? = _) := HBX
  have HM1 := Lib.hid (show MpB W.drew mb X rv wv from HM0.out.of_block rfl)
  have HB1 := Lib.hid (HB0.out.trans ((Below.refl W.heap.size W).drew.mono HB0.out.size))
  have HSZ1 : Hid (w.heap.size < W.drew.heap.size) := HSZ
  clear c0 c1 c2 c3 c4 c5 hx HBX HM0 HB0 HSZ
  generalize W.drew = W1 at *
  obtain ⟨c0, c1, c2, c3, c4, c5⟩ := six_cells HBX1.out
  go_wp2_with fail
  refine (HL.out W1 HB1.out).mono ?_
  rintro e W2 ⟨rfl, hb2⟩
  have HBX2 := Lib.hid ((hb2.block _ HSZ1.out).trans HBX1.out)
  have HM2 := Lib.hid (show MpB W2 mb X rv wv from HM1.out.of_block (hb2.block mb HM1.out.lt))
  have HK2 := Lib.hid (Kept.of_below (S := fun k => k = mb) (HB1.out.trans (hb2.mono HB1.out.size)))
  clear c0 c1 c2 c3 c4 c5 hb2 HM1 HBX1 HB1 HSZ1 HL
  obtain ⟨c0, c1, c2, c3, c4, c5⟩ := six_cells HBX2.out
  go_wp2_with fail
  have hz := HM2.out.reg HN.out.1
  have hzf := HM2.out.free d
  have HM3 := Lib.hid ((show MpB W2.drew mb X rv wv from HM2.out.of_block rfl).set HN.out.1 v)
  have HK3 := Lib.hid ((HK2.out.trans (Kept.of_below (Below.refl _ W2).drew)).trans (Kept.set W2.drew mb d (.int .u32 v)))
  refine wp_region_still_tail 7 (by kernel_rfl) (by kernel_rfl) ?_
  simp only [List.take_succ_cons, List.take_zero, List.drop_succ_cons, List.drop_zero]
  repeat still_step
  try refine wpStill_nil ?_
  change wpList _ _ _ _ _ W2.drew
  have hzd : W2.drew.cell? ⟨mb, d, none⟩ = some _ := hz
  have hzfd : W2.drew.frozen? ⟨mb, d, none⟩ = false := hzf
  clear hz hzf c0 c1 c2 c3 c4 c5
  generalize W2.drew = W3 at *
  go_wp2
  go_ret
  exact ⟨rfl, HM3.out, HK3.out⟩
end Go.Proofs.YtlnefmgiiogcmaaGreatDoor
namespace Go.Proofs.YtlnefmgiiogcmaaGreatDoor
open Go.RowKit Go.Maps
def litOf (q : Option IntKind) (v : Int) : DataW Unit := match q with | some k => .lit (.int k v) | none => .lit (.bool (v != 0))
def valOf (q : Option IntKind) (v : Int) : Value := match q with | some k => .int k v | none => .bool (v != 0)
def wfOf (q : Option IntKind) (v : Int) : Prop := match q with | some k => (Lit.int k v).wf = true | none => v = 0 ∨ v = 1
def Under (P : Program) (e : TypeId) (q : Option IntKind) : Prop := P.underlying e = some (match q with | some k => .int k | none => .bool)
structure MapF (P : Program) (k e : TypeId) (q : Option IntKind) (w : World) (b : Nat) (f : Int → Option Int) (n : Nat) : Prop where
  ex : ∃ D : DataW Unit, w.ownsMap P k (plainElem P e) b n D ∧ ∀ p, (Lit.int .i64 p).wf = true → (∀ z, D.atKey (.int .i64 p) z = match f p with | some v => litOf q v | none => z) ∧ ∀ v, f p = some v → wfOf q v
section
variable {P : Program} {k e t : TypeId} {q : Option IntKind} {w : World} {b n : Nat} {f : Int → Option Int}
theorem MapF.made (w : World) : MapF P k e q (w.alloc (.map #[] 0)) w.heap.size (fun _ => none) 0 := ⟨_, World.ownsMap_made w P k _, fun p _ => ⟨fun z => rfl, fun v h => by cases h⟩⟩
theorem MapF.lt (h : MapF P k e q w b f n) : b < w.heap.size := by
  obtain ⟨D, h1, _⟩ := h.ex
  exact h1.lt
theorem MapF.of_block {w' : World} (h : MapF P k e q w b f n) (hb : w'.heap[b]? = w.heap[b]?) : MapF P k e q w' b f n := by
  obtain ⟨D, ⟨es, c, h1, h2⟩, h3⟩ := h.ex
  exact ⟨D, ⟨es, c, hb.trans h1, h2⟩, h3⟩
theorem MapF.mono {m : Nat} (h : MapF P k e q w b f n) (hn : n ≤ m) : MapF P k e q w b f m := by
  obtain ⟨D, h1, h3⟩ := h.ex
  exact ⟨D, h1.mono hn, h3⟩
theorem elem_mk (hu : Under P e q) {v : Int} (hv : wfOf q v) : plainElem (H := Unit) P e (valOf q v) = some (litOf q v, []) := by
  cases q with
  | some k => exact plainElem_int hu hv
  | none => exact plainElem_bool hu _
theorem elem_inv (hu : Under P e q) {v : Int} {x : Value} {ps : List MemPlace} (hv : wfOf q v) (h : plainElem (H := Unit) P e x = some (litOf q v, ps)) : x = valOf q v := by
  unfold Under at hu
  unfold plainElem at h
  cases q with
  | some k =>
    rw [hu] at h
    cases x <;> simp at h
    rename_i k2 a
    obtain ⟨⟨rfl, _⟩, e2, _⟩ := h
    simp [litOf] at e2
    rw [e2]
    rfl
  | none =>
    rw [hu] at h
    cases x <;> simp at h
    rename_i a
    simp only [litOf, DataW.lit.injEq, Lit.bool.injEq] at h
    rw [h.1]
    rfl
theorem MapF.look (h : MapF P k e q w b f n) (hk : P.underlying k = some (.int .i64)) (ht : P.underlying t = some (.map k e)) (hu : Under P e q) (hz : (zeroValue e).run P w = .ok (valOf q 0) w) {p : Int} (hp : (Lit.int .i64 p).wf = true) :
    (Instr.lookup t (.map (some b)) (.int .i64 p) false).run P w = .ok (valOf q ((f p).getD 0)) w := by
  obtain ⟨D, h1, h2⟩ := h.ex
  obtain ⟨h3, h4⟩ := h2 p hp
  have hw0 : wfOf q 0 := by
    cases q with
    | some k => show (Lit.int k 0).wf = true; cases k <;> decide
    | none => exact .inl rfl
  obtain ⟨v, ps, hr, hv⟩ := h1.lookup (int_keyed hk) ht hz (elem_mk hu hw0) (keyOf_int_mk hk hp)
  rw [hr]
  rw [h3] at hv
  cases hf : f p with
  | none =>
    rw [hf] at hv
    rw [elem_inv hu hw0 hv]
    rfl
  | some x =>
    rw [hf] at hv
    rw [elem_inv hu (h4 x hf) hv]
    rfl
theorem MapF.look_ok (h : MapF P k e q w b f n) (hk : P.underlying k = some (.int .i64)) (ht : P.underlying t = some (.map k e)) (hu : Under P e q) (hz : (zeroValue e).run P w = .ok (valOf q 0) w) {p : Int} (hp : (Lit.int .i64 p).wf = true) :
    (Instr.lookup t (.map (some b)) (.int .i64 p) true).run P w = .ok (.tuple #[valOf q ((f p).getD 0), .bool (f p).isSome]) w := by
  obtain ⟨D, h1, h2⟩ := h.ex
  obtain ⟨h3, h4⟩ := h2 p hp
  have hw0 : wfOf q 0 := by
    cases q with
    | some k => show (Lit.int k 0).wf = true; cases k <;> decide
    | none => exact .inl rfl
  obtain ⟨v, ps, hr, hv⟩ := h1.look_ok (int_keyed hk) ht hz (elem_mk hu hw0) (keyOf_int_mk hk hp)
  rw [hr]
  rw [h3] at hv
  cases hf : f p with
  | none =>
    rw [hf] at hv h3
    rw [elem_inv hu hw0 hv, has_false_of_atKey h3]
    rfl
  | some x =>
    rw [hf] at hv h3
    rw [elem_inv hu (h4 x hf) hv, has_true_of_atKey (y := litOf q x) h3]
    rfl
def updF (f : Int → Option Int) (p : Int) (v : Option Int) : Int → Option Int := fun x => if x = p then v else f x
theorem wpList_mapF_put {ops : Array Oper} {rest : List Oper} {o : Oper} {a : Act} {Q : Exit → Act → World → Prop} (hg : o.guard = none) (m x v : Operand) (t : TypeId) (hop : o.op = Op.mapUpdate t m x v)
    (h : MapF P k e q w b f n) (hk : P.underlying k = some (.int .i64)) (ht : P.underlying t = some (.map k e)) (hu : Under P e q) (hn : n < maxLen) {p y : Int} (hp : (Lit.int .i64 p).wf = true) (hy : wfOf q y)
    (hm : a.eval m = .map (some b)) (hx : a.eval x = .int .i64 p) (hv : a.eval v = valOf q y)
    (hK : ∀ w', MapF P k e q w' b (updF f p (some y)) (n + 1) → Kept (fun k => k = b) w w' → wpList P ops Q rest (a.put o.dst undef) w') : wpList P ops Q (o :: rest) a w := by
  obtain ⟨D, h1, h2⟩ := h.ex
  refine wpList_mapUpdate_own w hg m x v t hop k e (int_keyed hk) ht _ b n D hm h1 hn _ _ _ hx hv (keyOf_int_mk hk hp) (litOf q y) [] (elem_mk hu hy) ?_
  intro w' h3 h4
  refine hK w' ⟨_, h3, fun p2 hp2 => ?_⟩ ?_
  · obtain ⟨h5, h6⟩ := h2 p2 hp2
    unfold updF
    by_cases e2 : p2 = p
    · subst e2
      rw [if_pos rfl]
      exact ⟨fun z => atKey_put_same (k := Lit.int .i64 p2) h1.isMap trivial _ z, fun v hv => by cases hv; exact hy⟩
    · rw [if_neg e2]
      exact ⟨fun z => (atKey_put_other (fun e3 => e2 (by simpa using e3)) _ z).trans (h5 z), h6⟩
  · exact ⟨⟨h4.os, h4.tape, h4.output, h4.size, fun k hk => absurd hk (Nat.not_lt_zero k)⟩, fun k hk hne => h4.block k hk (fun e => hne (Option.some.inj e))⟩
theorem wpList_mapF_del {ops : Array Oper} {rest : List Oper} {o : Oper} {a : Act} {Q : Exit → Act → World → Prop} (hg : o.guard = none) (m x : Operand) (t : TypeId) (hop : o.op = Op.call { callee := Callee.builtin Builtin.delete, args := #[m, x], argTypes := #[t, k] })
    (h : MapF P k e q w b f n) (hk : P.underlying k = some (.int .i64)) (ht : P.underlying t = some (.map k e)) {p : Int} (hp : (Lit.int .i64 p).wf = true)
    (hm : a.eval m = .map (some b)) (hx : a.eval x = .int .i64 p)
    (hK : ∀ w', MapF P k e q w' b (updF f p none) n → Kept (fun k => k = b) w w' → wpList P ops Q rest (a.put o.dst (.tuple #[])) w') : wpList P ops Q (o :: rest) a w := by
  obtain ⟨D, h1, h2⟩ := h.ex
  refine wpList_delete_own w hg m x t k hop e (int_keyed hk) ht _ b n D hm h1 _ _ hx (keyOf_int_mk hk hp) ?_
  intro w' h3 h4
  have h5 := h4.grown
  refine hK w' ⟨_, h3, fun p2 hp2 => ?_⟩ ⟨⟨h5.os, h5.tape, h5.output, h5.size, fun k hk => absurd hk (Nat.not_lt_zero k)⟩, fun k hk hne => h5.block k hk (fun e => hne (Option.some.inj e))⟩
  obtain ⟨h6, h7⟩ := h2 p2 hp2
  unfold updF
  by_cases e2 : p2 = p
  · subst e2
    rw [if_pos rfl]
    exact ⟨fun z => atKey_del_same z, fun v hv => by cases hv⟩
  · rw [if_neg e2]
    exact ⟨fun z => (atKey_del_other (fun e3 => e2 (by simpa using e3)) z).trans (h6 z), h7⟩
end
end Go.Proofs.YtlnefmgiiogcmaaGreatDoor
namespace Go.Proofs.YtlnefmgiiogcmaaGreatDoor
open Go.RowKit
theorem wide1 (v : Int) (hv : Reg32 v) (s : Bool) (w : World) : Calls Tryz.prog 39 #[.int .u32 v, .int .i64 8, .bool s] w fun e w' => e = .returned (.int .u32 (wideZ v 1 s)) ∧ w = w' := by
  obtain ⟨v0, v1⟩ := hv
  cases s with
  | true =>
    have HV : Hid (wrap32 (v * 16777216 % 4294967296) / 16777216 % 4294967296 = wideZ v 1 true) := Lib.hid (by unfold wideZ wrap32; simp; omega)
    go_enter Tryz.func39, Tryz.ntmps39
    go_wp2
    go_ret
    exact ⟨by rw [← HV.out]; rfl, rfl⟩
  | false =>
    have HV : Hid (v * 16777216 % 4294967296 / 16777216 = wideZ v 1 false) := Lib.hid (by unfold wideZ; simp; omega)
    go_enter Tryz.func39, Tryz.ntmps39
    go_wp2
    go_ret
    exact ⟨by rw [← HV.out]; rfl, rfl⟩
theorem wide2 (v : Int) (hv : Reg32 v) (s : Bool) (w : World) : Calls Tryz.prog 39 #[.int .u32 v, .int .i64 16, .bool s] w fun e w' => e = .returned (.int .u32 (wideZ v 2 s)) ∧ w = w' := by
  obtain ⟨v0, v1⟩ := hv
  cases s with
  | true =>
    have HV : Hid (wrap32 (v * 65536 % 4294967296) / 65536 % 4294967296 = wideZ v 2 true) := Lib.hid (by unfold wideZ wrap32; simp; omega)
    go_enter Tryz.func39, Tryz.ntmps39
    go_wp2
    go_ret
    exact ⟨by rw [← HV.out]; rfl, rfl⟩
  | false =>
    have HV : Hid (v * 65536 % 4294967296 / 65536 = wideZ v 2 false) := Lib.hid (by unfold wideZ; simp; omega)
    go_enter Tryz.func39, Tryz.ntmps39
    go_wp2
    go_ret
    exact ⟨by rw [← HV.out]; rfl, rfl⟩
theorem wide4 (v : Int) (hv : Reg32 v) (s : Bool) (w : World) : Calls Tryz.prog 39 #[.int .u32 v, .int .i64 32, .bool s] w fun e w' => e = .returned (.int .u32 (wideZ v 4 s)) ∧ w = w' := by
  obtain ⟨v0, v1⟩ := hv
  have hz : wideZ v 4 s = v := by unfold wideZ; rw [if_pos rfl]
  rw [hz]
  cases s with
  | true =>
    have HV : Hid (wrap32 v % 4294967296 = v) := Lib.hid (by unfold wrap32; omega)
    go_enter Tryz.func39, Tryz.ntmps39
    go_wp2
    go_ret
    exact ⟨by first | rfl | (rw [HV.out]; rfl), rfl⟩
  | false =>
    go_enter Tryz.func39, Tryz.ntmps39
    go_wp2
    go_ret
    exact ⟨rfl, rfl⟩
theorem wide_any (v : Int) (hv : Reg32 v) (n : Nat) (hn : n = 1 ∨ n = 2 ∨ n = 4) (s : Bool) (w : World) : Calls Tryz.prog 39 #[.int .u32 v, .int .i64 (8 * (n : Int)), .bool s] w fun e w' => e = .returned (.int .u32 (wideZ v n s)) ∧ w = w' := by
  rcases hn with rfl | rfl | rfl
  · exact wide1 v hv s w
  · exact wide2 v hv s w
  · exact wide4 v hv s w
theorem right_yes (a : Int) (n : Nat) (hn : n = 1 ∨ n = 2 ∨ n = 4) (ha : Reg32 a) (hr : reach a n = true) (w : World) : Calls Tryz.prog 85 #[.int .u32 a, .int .i64 (n : Int)] w fun e w' => e = .returned .nilIface ∧ w = w' := by
  obtain ⟨a0, a1⟩ := ha
  have h := of_decide_eq_true hr
  obtain ⟨h1, h2⟩ := h
  rcases hn with rfl | rfl | rfl
  all_goals
    have e1 : (a % (1 : Int) != 0) = false := by simp
    go_enter Tryz.func85, Tryz.ntmps85
    go_wp2
    go_ret
    exact ⟨rfl, rfl⟩
theorem right_no1 (a : Int) (ha : Reg32 a) (hr : reach a 1 = false) {ad : Nat → Addr} (w : World) (hS : Sents w ad) : Calls Tryz.prog 85 #[.int .u32 a, .int .i64 1] w fun e w' => (∃ x, e = .returned (errI x)) ∧ w = w' := by
  obtain ⟨a0, a1⟩ := ha
  have h := of_decide_eq_false hr
  have c8 := hS.c8
  have c9 := hS.c9
  clear hS hr
  have hf : 16384 ≤ a := by
    rcases Int.lt_or_le a 16384 with h2 | h2
    · exact absurd ⟨by simp, h2⟩ h
    · exact h2
  have e1 : (a % (1 : Int) != 0) = false := by simp
  clear h
  go_enter Tryz.func85, Tryz.ntmps85
  go_wp2
  go_ret
  exact ⟨⟨_, rfl⟩, rfl⟩
theorem right_no2 (a : Int) (ha : Reg32 a) (hr : reach a 2 = false) {ad : Nat → Addr} (w : World) (hS : Sents w ad) : Calls Tryz.prog 85 #[.int .u32 a, .int .i64 2] w fun e w' => (∃ x, e = .returned (errI x)) ∧ w = w' := by
  obtain ⟨a0, a1⟩ := ha
  have h := of_decide_eq_false hr
  have c8 := hS.c8
  have c9 := hS.c9
  clear hS hr
  by_cases hm : a % (2 : Int) = 0
  · have hf : 16384 ≤ a := by
      rcases Int.lt_or_le a 16384 with h2 | h2
      · exact absurd ⟨hm, h2⟩ h
      · exact h2
    have e1 : (a % (2 : Int) != 0) = false := by simpa using hm
    clear h hm
    go_enter Tryz.func85, Tryz.ntmps85
    go_wp2
    go_ret
    exact ⟨⟨_, rfl⟩, rfl⟩
  · have e1 : (a % (2 : Int) != 0) = true := by simpa using hm
    clear h hm
    go_enter Tryz.func85, Tryz.ntmps85
    go_wp2
    go_ret
    exact ⟨⟨_, rfl⟩, rfl⟩
theorem right_no4 (a : Int) (ha : Reg32 a) (hr : reach a 4 = false) {ad : Nat → Addr} (w : World) (hS : Sents w ad) : Calls Tryz.prog 85 #[.int .u32 a, .int .i64 4] w fun e w' => (∃ x, e = .returned (errI x)) ∧ w = w' := by
  obtain ⟨a0, a1⟩ := ha
  have h := of_decide_eq_false hr
  have c8 := hS.c8
  have c9 := hS.c9
  clear hS hr
  by_cases hm : a % (4 : Int) = 0
  · have hf : 16384 ≤ a := by
      rcases Int.lt_or_le a 16384 with h2 | h2
      · exact absurd ⟨hm, h2⟩ h
      · exact h2
    have e1 : (a % (4 : Int) != 0) = false := by simpa using hm
    clear h hm
    go_enter Tryz.func85, Tryz.ntmps85
    go_wp2
    go_ret
    exact ⟨⟨_, rfl⟩, rfl⟩
  · have e1 : (a % (4 : Int) != 0) = true := by simpa using hm
    clear h hm
    go_enter Tryz.func85, Tryz.ntmps85
    go_wp2
    go_ret
    exact ⟨⟨_, rfl⟩, rfl⟩
theorem right_no (a : Int) (n : Nat) (hn : n = 1 ∨ n = 2 ∨ n = 4) (ha : Reg32 a) (hr : reach a n = false) {ad : Nat → Addr} (w : World) (hS : Sents w ad) : Calls Tryz.prog 85 #[.int .u32 a, .int .i64 (n : Int)] w fun e w' => (∃ x, e = .returned (errI x)) ∧ w = w' := by
  rcases hn with rfl | rfl | rfl
  · exact right_no1 a ha hr w hS
  · exact right_no2 a ha hr w hS
  · exact right_no4 a ha hr w hS
def bytesG (ws : List Int) : Nat → Value := fun i => .int .u8 (byteAt ws i)
def pageF (f : Nat → Bool) : Int → Option Int := fun p => if 0 ≤ p ∧ p < 64 ∧ f p.toNat = true then some 1 else none
abbrev PageM (w : World) (b : Nat) (f : Nat → Bool) (n : Nat) : Prop := MapF Tryz.prog 3 4 none w b (pageF f) n
structure RamP (w : World) (r bb mw mh : Nat) (ws : List Int) (wt ht : Nat → Bool) (n : Nat) : Prop where
  blk : w.heap[r]? = some (.cells #[.slice (some ⟨bb, 0, none⟩) 16384 16384, .map (some mw), .map (some mh)] 100 (0, 0))
  bytes : Row w bb 5 16384 (bytesG ws)
  watch : PageM w mw wt n
  hits : PageM w mh ht n
  ne : mw ≠ mh
  len : ws.length = 4096
  ok : WsOK ws
section
variable {w : World} {r bb mw mh n : Nat} {ws : List Int} {wt ht : Nat → Bool}
theorem RamP.lt (h : RamP w r bb mw mh ws wt ht n) : r < w.heap.size := (Array.getElem?_eq_some_iff.1 h.blk).1
theorem RamP.kept {S : Nat → Prop} {w' : World} (h : RamP w r bb mw mh ws wt ht n) (hk : Kept S w w') (h1 : ¬ S r) (h2 : ¬ S bb) (h3 : ¬ S mw) (h4 : ¬ S mh) : RamP w' r bb mw mh ws wt ht n :=
  ⟨(hk.same r h.lt h1).trans h.blk, h.bytes.kept hk h2, h.watch.of_block (hk.same mw h.watch.lt h3), h.hits.of_block (hk.same mh h.hits.lt h4), h.ne, h.len, h.ok⟩
theorem RamP.below {w' : World} (h : RamP w r bb mw mh ws wt ht n) (hb : Below w.heap.size w w') : RamP w' r bb mw mh ws wt ht n := h.kept (S := fun _ => False) (.of_below hb) id id id id
theorem RamP.cells (h : RamP w r bb mw mh ws wt ht n) : w.cell? ⟨r, 0, none⟩ = some (.slice (some ⟨bb, 0, none⟩) 16384 16384) ∧ w.cell? ⟨r, 1, none⟩ = some (.map (some mw)) ∧ w.cell? ⟨r, 2, none⟩ = some (.map (some mh)) := by
  have := h.blk
  refine ⟨?_, ?_, ?_⟩ <;> simp [World.cell?, this]
theorem or_byte2 (x y : Int) (h0 : 0 ≤ x) (h1 : x < 16777216) (g0 : 0 ≤ y) (g1 : y < 256) : bits .or .u32 (x * 256) y = 256 * x + y := by
  obtain ⟨m, rfl⟩ := Int.eq_ofNat_of_zero_le h0
  obtain ⟨n, rfl⟩ := Int.eq_ofNat_of_zero_le g0
  have h := Nat.two_pow_add_eq_or_of_lt (i := 8) (b := n) (by omega) m
  rw [show (m : Int) * 256 = ((m * 256 : Nat) : Int) by omega, u32_or_nat (m * 256) n (by omega) (by omega)]
  rw [show (2 : Nat) ^ 8 * m = m * 256 by omega] at h
  rw [← h]
  omega
set_option maxHeartbeats 2000000 in
theorem ramLoad_yes (h : RamP w r bb mw mh ws wt ht n) (a k : Nat) (hk : k = 1 ∨ k = 2 ∨ k = 4) (hr : reach (a : Int) k = true) (s : Bool) :
    Calls Tryz.prog 88 #[.pointer (some ⟨r, 0, none⟩), .int .u32 (a : Int), .int .i64 (k : Int), .bool s] w fun e w' => e = .returned (.tuple #[.int .u32 (wideZ (loadN ws a k) k s), .nilIface]) ∧ w = w' := by
  have hr2 := of_decide_eq_true hr
  have ha : a < 16384 := by have := hr2.2; omega
  have hak : a + k ≤ 16384 := by
    have := hr2.1
    rcases hk with rfl | rfl | rfl <;> omega
  have hkI : (1 : Int) ≤ (k : Int) ∧ (k : Int) ≤ 4 := by rcases hk with rfl | rfl | rfl <;> decide
  obtain ⟨c0, _⟩ := h.cells
  have HRK := Lib.hid (fun W => right_yes (a : Int) k hk ⟨by omega, by omega⟩ hr W)
  have hrg := load_ok ws a k
  have hr32 : Reg32 (loadN ws a k) := ⟨hrg.1, Int.lt_of_lt_of_le hrg.2 (by rcases hk with rfl | rfl | rfl <;> decide)⟩
  have HWI := Lib.hid (fun W => wide_any (loadN ws a k) hr32 k hk s W)
  have HC := Lib.hid h.bytes
  have HOK := Lib.hid h.ok
  have HK := Lib.hid hk
  have HAK := Lib.hid hak
  obtain ⟨k0, k1⟩ := hkI
  have haI : (a : Int) < 16384 := by omega
  have hakI : (a : Int) + (k : Int) ≤ 16384 := by omega
  clear h hr hr2 ha hak hk hrg hr32
  go_enter Tryz.func88, Tryz.ntmps88
  go_wp2_with (go_at_call 85; (with_reducible refine (HRK.out _).mono ?_); rintro e w1 ⟨rfl, rfl⟩)
  rw [show a + k - a = k from by omega]
  go_loop [31, 11] (fun i v => ∃ j : Nat, j ≤ k ∧ i = .int .i64 (j : Int) ∧ v = .int .u32 (loadN ws a j)) (fun i _ => k - (intOf i).toNat)
  case atStart => exact ⟨0, Nat.zero_le _, rfl, rfl⟩
  case round =>
    obtain ⟨j, hj, rfl, rfl⟩ := hrel
    by_cases hlt : j < k
    · have hjI : (j : Int) < (k : Int) := by omega
      have hc : w.cell? ⟨bb, a + j, none⟩ = some (.int .u8 (byteAt ws (a + j))) := HC.out.cell (show a + j < 16384 by have := HAK.out; omega)
      obtain ⟨hf0, hf1⟩ := byte_ok ws (a + j)
      obtain ⟨ha0, ha1⟩ := load_ok ws a j
      have ha2 : loadN ws a j < 16777216 := Int.lt_of_lt_of_le ha1 (by
        have : j = 0 ∨ j = 1 ∨ j = 2 ∨ j = 3 := by rcases HK.out with h | h | h <;> omega
        rcases this with rfl | rfl | rfl | rfl <;> decide)
      have HS := Lib.hid (show loadN ws a (j + 1) = 256 * loadN ws a j + byteAt ws (a + j) from rfl)
      have hor := or_byte2 _ _ ha0 ha2 hf0 hf1
      have HLT := Lib.hid hlt
      generalize loadN ws a j = v at *
      generalize byteAt ws (a + j) = b at *
      clear ha1 hlt
      go_wp2
      go_round
      case rel => exact ⟨j + 1, by have := HLT.out; omega, by go_num, by rw [HS.out]⟩
      case measure => have := HLT.out; go_light; simp [intOf]; omega
    · have e : j = k := by omega
      subst e
      clear hlt
      go_wp2_with (go_at_call 39; (with_reducible refine (HWI.out _).mono ?_); rintro e w1 ⟨rfl, rfl⟩)
      go_ret2
      exact ⟨rfl, rfl⟩
theorem ramLoad_no (h : RamP w r bb mw mh ws wt ht n) (a : Int) (k : Nat) (hk : k = 1 ∨ k = 2 ∨ k = 4) (ha : Reg32 a) (hr : reach a k = false) {ad : Nat → Addr} (hS : Sents w ad) (s : Bool) :
    Calls Tryz.prog 88 #[.pointer (some ⟨r, 0, none⟩), .int .u32 a, .int .i64 (k : Int), .bool s] w fun e w' => (∃ x, e = .returned (.tuple #[.int .u32 0, errI x])) ∧ w = w' := by
  obtain ⟨c0, _⟩ := h.cells
  have HRK := Lib.hid (right_no a k hk ha hr w hS)
  clear h hr hS
  go_enter Tryz.func88, Tryz.ntmps88
  go_wp2_with fail
  refine HRK.out.mono ?_
  rintro e w1 ⟨⟨x, rfl⟩, rfl⟩
  go_wp2_with fail
  go_ret2
  exact ⟨⟨x, rfl⟩, rfl⟩
theorem wf_small {p : Int} (h0 : 0 ≤ p) (h1 : p ≤ 4611686018427387904) : (Lit.int .i64 p).wf = true := by
  have e0 : IntKind.i64.min = -9223372036854775808 := by decide
  have e1 : IntKind.i64.max = 9223372036854775807 := by decide
  simp only [Lit.wf, e0, e1]
  simp only [Bool.and_eq_true, decide_eq_true_eq]
  omega
theorem boolZero (w : World) : (zeroValue 4).run Tryz.prog w = .ok (valOf none 0) w := by kernel_rfl
theorem watched_any (h : RamP w r bb mw mh ws wt ht n) (a : Int) (ha : 0 ≤ a) (ha2 : a < 16384) :
    Calls Tryz.prog 89 #[.pointer (some ⟨r, 0, none⟩), .int .u32 a] w fun e w' => e = .returned (.bool (wt (a.toNat / 256))) ∧ w = w' := by
  obtain ⟨_, c1, _⟩ := h.cells
  have hl := h.watch.look (t := 98) Tryz.underlying3 Tryz.underlying98 Tryz.underlying4 (boolZero w) (p := a / 256) (wf_small (by omega) (by omega))
  have hv : valOf none ((pageF wt (a / 256)).getD 0) = .bool (wt (a.toNat / 256)) := by
    have e : (a / 256).toNat = a.toNat / 256 := by omega
    unfold pageF
    rw [e]
    cases hq : wt (a.toNat / 256) with
    | true =>
      rw [if_pos ⟨by omega, by omega, rfl⟩]
      rfl
    | false =>
      rw [if_neg (fun h => by cases h.2.2)]
      rfl
  rw [hv] at hl
  clear h hv
  generalize wt (a.toNat / 256) = q at *
  go_enter Tryz.func89, Tryz.ntmps89
  go_wp2
  go_ret
  exact ⟨rfl, rfl⟩
end
end Go.Proofs.YtlnefmgiiogcmaaGreatDoor
namespace Go.Proofs.YtlnefmgiiogcmaaGreatDoor
open Go.RowKit
theorem byteAt_put {ws : List Int} (hw : WsOK ws) (hl : ws.length = 4096) (a i : Nat) (ha : a < 16384) {v : Int} (v0 : 0 ≤ v) (v1 : v < 256) : byteAt (putByte ws a v) i = if i = a then v else byteAt ws i := by
  unfold putByte
  by_cases hq : i / 4 = a / 4
  · have hrng : 0 ≤ ws.getD (a / 4) 0 ∧ ws.getD (a / 4) 0 < 4294967296 := by
      rw [List.getD_eq_getElem?_getD]
      cases e : ws[a / 4]? with
      | none => exact ⟨by decide, by decide⟩
      | some z => exact hw z (List.mem_of_getElem? e)
    have hset : ∀ x : Int, (ws.set (a / 4) x).getD (i / 4) 0 = x := by
      intro x
      rw [hq, List.getD_eq_getElem?_getD, List.getElem?_set_self (by omega)]
      rfl
    unfold byteAt
    rw [hset, hq]
    generalize ws.getD (a / 4) 0 = W at *
    obtain ⟨r0, r1⟩ := hrng
    have ha4 : a % 4 = 0 ∨ a % 4 = 1 ∨ a % 4 = 2 ∨ a % 4 = 3 := by omega
    have hi4 : i % 4 = 0 ∨ i % 4 = 1 ∨ i % 4 = 2 ∨ i % 4 = 3 := by omega
    by_cases hia : i = a
    · subst hia
      rw [if_pos rfl]
      rcases ha4 with e | e | e | e <;> rw [e] <;> (simp; try omega)
    · rw [if_neg hia]
      rcases ha4 with e | e | e | e <;> rcases hi4 with f | f | f | f <;> first | (exfalso; omega) | (rw [e, f]; simp; try omega)
  · have hia : ¬ i = a := fun e => hq (by rw [e])
    rw [if_neg hia]
    unfold byteAt
    rw [List.getD_eq_getElem?_getD, List.getElem?_set_ne (fun e => hq e.symm), ← List.getD_eq_getElem?_getD]
theorem putByte_len (ws : List Int) (a : Nat) (v : Int) : (putByte ws a v).length = ws.length := by unfold putByte; rw [List.length_set]
theorem storeN_len (a n : Nat) (v : Int) (ws : List Int) : ∀ m, (storeN a n v m ws).length = ws.length
  | 0 => rfl
  | m + 1 => by rw [storeN, putByte_len, storeN_len a n v ws m]
section
variable {w : World} {r bb mw mh n : Nat} {ws : List Int} {wt ht : Nat → Bool}
theorem RamP.byte (h : RamP w r bb mw mh ws wt ht n) (hne : bb ≠ mw ∧ bb ≠ mh ∧ bb ≠ r ∧ mh ≠ r) {q : Nat} (hq : q < 16384) {x : Int} (x0 : 0 ≤ x) (x1 : x < 256) : RamP (w.setCell ⟨bb, q, none⟩ (.int .u8 x)) r bb mw mh (putByte ws q x) wt ht n where
  blk := (setCell_other w bb q r _ (fun e => hne.2.2.1 e.symm)).trans h.blk
  bytes := (Row.set h.bytes q (.int .u8 x)).eqv (fun i hi => by
    unfold bytesG
    rw [byteAt_put h.ok h.len q i hq x0 x1]
    split <;> rfl)
  watch := h.watch.of_block (setCell_other w bb q mw _ (fun e => hne.1 e.symm))
  hits := h.hits.of_block (setCell_other w bb q mh _ (fun e => hne.2.1 e.symm))
  ne := h.ne
  len := by rw [putByte_len]; exact h.len
  ok := put_ok h.ok q x
def hitP (wt ht : Nat → Bool) (p : Nat) : Nat → Bool := fun x => ht x || (decide (x = p) && wt p)
set_option maxHeartbeats 4000000 in
set_option maxRecDepth 100000 in
theorem ramStore_yes (h : RamP w r bb mw mh ws wt ht n) (hn : n < 1099511627776) (a k : Nat) (hk : k = 1 ∨ k = 2 ∨ k = 4) (hr : reach (a : Int) k = true) (v : Int) (hv : Reg32 v) (hne : bb ≠ mw ∧ bb ≠ mh ∧ bb ≠ r ∧ mh ≠ r) :
    Calls Tryz.prog 56 #[.pointer (some ⟨r, 0, none⟩), .int .u32 (a : Int), .int .i64 (k : Int), .int .u32 v] w fun e w' => e = .returned .nilIface ∧ RamP w' r bb mw mh (storeN a k v k ws) wt (hitP wt ht (a / 256)) (n + 1) ∧ Kept (fun k => k = bb ∨ k = mh) w w' := by
  have hr2 := of_decide_eq_true hr
  have ha : a < 16384 := by have := hr2.2; omega
  have hak : a + k ≤ 16384 := by
    have := hr2.1
    rcases hk with rfl | rfl | rfl <;> omega
  have hkI : (1 : Int) ≤ (k : Int) ∧ (k : Int) ≤ 4 := by rcases hk with rfl | rfl | rfl <;> decide
  have HRK := Lib.hid (fun W => right_yes (a : Int) k hk ⟨by omega, by omega⟩ hr W)
  have HR := Lib.hid h
  have HK := Lib.hid hk
  have HAK := Lib.hid hak
  have HA := Lib.hid ha
  have HNE := Lib.hid hne
  have HN := Lib.hid hn
  obtain ⟨k0, k1⟩ := hkI
  obtain ⟨v0, v1⟩ := hv
  have haI : (a : Int) < 16384 := by omega
  have hakI : (a : Int) + (k : Int) ≤ 16384 := by omega
  clear h hr hr2 ha hak hk hne hn
  go_enter Tryz.func56, Tryz.ntmps56
  go_wp2_with (go_at_call 85; (with_reducible refine (HRK.out _).mono ?_); rintro e w1 ⟨rfl, rfl⟩)
  go_loopw [19] (fun i wr => ∃ j : Nat, j ≤ k ∧ i = .int .i64 (j : Int) ∧ Hid (RamP wr r bb mw mh (storeN a k v j ws) wt ht n) ∧ Hid (Kept (fun k => k = bb) w wr)) (fun i _ => k - (intOf i).toNat)
  case atStart => exact ⟨0, Nat.zero_le _, rfl, HR, Lib.hid (Kept.refl _ _)⟩
  case round =>
    obtain ⟨j, hj, rfl, HRJ, HKJ⟩ := hrel
    by_cases hlt : j < k
    · have hjI : (j : Int) < (k : Int) := by omega
      obtain ⟨m, hm⟩ : ∃ m : Nat, k - 1 - j = m := ⟨_, rfl⟩
      have hm1 : (k : Int) - 1 - (j : Int) = (m : Int) := by omega
      have hm3 : m ≤ 3 := by rcases HK.out with h | h | h <;> omega
      have hw1 : IntKind.i64.wrap ((k : Int) - 1) = (k : Int) - 1 := IntWalk.i64_in _ ⟨by omega, by omega⟩
      have hw2 : IntKind.i64.wrap ((k : Int) - 1 - (j : Int)) = (m : Int) := by rw [hm1]; exact IntWalk.i64_in _ ⟨by omega, by omega⟩
      have hw3 : IntKind.i64.wrap (8 * (m : Int)) = 8 * (m : Int) := IntWalk.i64_in _ ⟨by omega, by omega⟩
      have hw5 : IntKind.i64.wrap (a : Int) = (a : Int) := IntWalk.i64_in _ ⟨by omega, by omega⟩
      have hw6 : IntKind.i64.wrap (m : Int) = (m : Int) := IntWalk.i64_in _ ⟨by omega, by omega⟩
      have hs0 : (0 : Int) ≤ 8 * (m : Int) := by omega
      have hs1 : (8 : Int) * (m : Int) < 32 := by omega
      obtain ⟨c0, c1, c2⟩ := HRJ.out.cells
      have hc : wr.cell? ⟨bb, a + j, none⟩ = some (bytesG (storeN a k v j ws) (a + j)) := HRJ.out.bytes.cell (show a + j < 16384 by have := HAK.out; omega)
      have hf : wr.frozen? ⟨bb, a + j, none⟩ = false := HRJ.out.bytes.free _
      have hcd : wr.drew.cell? ⟨bb, a + j, none⟩ = some (bytesG (storeN a k v j ws) (a + j)) := hc
      have hfd : wr.drew.frozen? ⟨bb, a + j, none⟩ = false := hf
      obtain ⟨q, hq⟩ : ∃ q : Nat, a + j = q := ⟨_, rfl⟩
      have hw4 : IntKind.i64.wrap ((a : Int) + (j : Int)) = (q : Int) := by rw [show (a : Int) + (j : Int) = (q : Int) by omega]; exact IntWalk.i64_in _ ⟨by omega, by omega⟩
      have haj : (q : Int) < 16384 := by omega
      rw [hq] at hc hf hcd hfd
      have HQ := Lib.hid hq
      clear hq
      have HLT := Lib.hid hlt
      have HM := Lib.hid (And.intro hm hm3)
      clear hlt hm hm3
      go_wp2_with fail
      go_still_tail 17, (by kernel_rfl)
      change wpList _ _ _ _ _ wr.drew
      generalize hwd : wr.drew = wd at *
      clear hc hf
      go_wp2
      have hx0 : 0 ≤ v / 2 ^ (8 * m) % 256 := Int.emod_nonneg _ (by decide)
      have hx1 : v / 2 ^ (8 * m) % 256 < 256 := Int.emod_lt_of_pos _ (by decide)
      have hqb : q < 16384 := by have := HAK.out; have := HQ.out; have := HLT.out; omega
      have HRD : RamP wd r bb mw mh (storeN a k v j ws) wt ht n := hwd ▸ HRJ.out.below (Below.refl _ _).drew
      have HKD : Kept (fun k => k = bb) w wd := hwd ▸ HKJ.out.trans (Kept.of_below (Below.refl _ _).drew)
      have hst : storeN a k v (j + 1) ws = putByte (storeN a k v j ws) q (v / 2 ^ (8 * m) % 256) := by
        rw [storeN, HQ.out, HM.out.1]
      have HR2 := Lib.hid (HRD.byte HNE.out hqb hx0 hx1)
      have HK2 := Lib.hid (HKD.trans (Kept.set wd bb q (.int .u8 (v / 2 ^ (8 * m) % 256))))
      rw [← hst] at HR2
      clear hst HRD HKD hcd hfd
      go_roundw
      case rel => exact ⟨j + 1, by have := HLT.out; omega, by go_num, HR2, HK2⟩
      case measure => have := HLT.out; go_light; simp [intOf]; omega
    · obtain rfl : j = k := by omega
      have hd : decide ((j : Int) < (j : Int)) = false := decide_eq_false (by omega)
      obtain ⟨c0, c1, c2⟩ := HRJ.out.cells
      have hl := HRJ.out.watch.look (t := 98) Tryz.underlying3 Tryz.underlying98 Tryz.underlying4 (boolZero wr) (p := (a : Int) / 256) (wf_small (by omega) (by omega))
      have hpq : ((a : Int) / 256).toNat = a / 256 := by omega
      have hv2 : valOf none ((pageF wt ((a : Int) / 256)).getD 0) = .bool (wt (a / 256)) := by
        unfold pageF
        rw [hpq]
        cases hq : wt (a / 256) with
        | true => rw [if_pos ⟨by omega, by omega, rfl⟩]; rfl
        | false => rw [if_neg (fun h => by cases h.2.2)]; rfl
      rw [hv2] at hl
      have HSL := Lib.hid (storeN_len a j v ws j)
      clear hv2 hlt
      cases hq : wt (a / 256) with
      | false =>
        rw [hq] at hl
        have HQ := Lib.hid hq
        clear hq
        go_wp2
        go_ret
        have hh : ht = hitP wt ht (a / 256) := by
          funext x
          unfold hitP
          rw [HQ.out]
          simp
        have HP := HRJ.out
        refine ⟨rfl, ⟨HP.blk, HP.bytes, HP.watch.mono (by omega), ?_, HP.ne, HP.len, HP.ok⟩, HKJ.out.mono (fun k e => .inl e)⟩
        rw [← hh]
        exact HP.hits.mono (by omega)
      | true =>
        rw [hq] at hl
        have HQ := Lib.hid hq
        clear hq
        go_wp2_with (at_mapUpdate; refine wpList_mapF_put rfl _ _ _ 98 rfl HRJ.out.hits Tryz.underlying3 Tryz.underlying98 Tryz.underlying4 (by have := HN.out; unfold maxLen; omega) (p := (a : Int) / 256) (y := 1) (wf_small (by omega) (by omega)) (.inr rfl) rfl rfl rfl ?_; intro w5 hm5 hk5)
        go_ret
        have hh : updF (pageF ht) ((a : Int) / 256) (some 1) = pageF (hitP wt ht (a / 256)) := by
          funext x
          unfold updF pageF hitP
          rw [HQ.out]
          by_cases e : x = (a : Int) / 256
          · subst e
            rw [if_pos rfl, if_pos ⟨by omega, by have := HA.out; omega, by rw [hpq]; simp⟩]
          · rw [if_neg e]
            by_cases e2 : 0 ≤ x ∧ x < 64
            · have e3 : ¬ x.toNat = a / 256 := by omega
              simp [e2, e3]
            · rw [if_neg (fun h => e2 ⟨h.1, h.2.1⟩), if_neg (fun h => e2 ⟨h.1, h.2.1⟩)]
        rw [hh] at hm5
        have HP := HRJ.out
        have hn := HNE.out
        refine ⟨rfl, ⟨(hk5.same r HP.lt (fun e => hn.2.2.2 e.symm)).trans HP.blk, HP.bytes.kept hk5 (fun e => hn.2.1 e), (HP.watch.of_block (hk5.same mw HP.watch.lt HP.ne)).mono (by omega), hm5, HP.ne, HP.len, HP.ok⟩, (HKJ.out.mono (fun k e => Or.inl e)).trans (hk5.mono (fun k e => Or.inr e))⟩
end
end Go.Proofs.YtlnefmgiiogcmaaGreatDoor
namespace Go.Proofs.YtlnefmgiiogcmaaGreatDoor
open Go.RowKit
theorem and_split (n x y p q : Nat) (hy : y < 2 ^ n) (hq : q < 2 ^ n) : (2 ^ n * x + y) &&& (2 ^ n * p + q) = 2 ^ n * (x &&& p) + (y &&& q) := by
  apply Nat.eq_of_testBit_eq
  intro j
  have hyq : y &&& q < 2 ^ n := Nat.lt_of_le_of_lt Nat.and_le_left hy
  rw [Nat.testBit_and, Nat.testBit_two_pow_mul_add _ hy, Nat.testBit_two_pow_mul_add _ hq, Nat.testBit_two_pow_mul_add _ hyq]
  split <;> rw [Nat.testBit_and]
theorem or_split (n x y p q : Nat) (hy : y < 2 ^ n) (hq : q < 2 ^ n) : (2 ^ n * x + y) ||| (2 ^ n * p + q) = 2 ^ n * (x ||| p) + (y ||| q) := by
  apply Nat.eq_of_testBit_eq
  intro j
  have hyq : y ||| q < 2 ^ n := Nat.or_lt_two_pow hy hq
  rw [Nat.testBit_or, Nat.testBit_two_pow_mul_add _ hy, Nat.testBit_two_pow_mul_add _ hq, Nat.testBit_two_pow_mul_add _ hyq]
  split <;> rw [Nat.testBit_or]
theorem patch_nat (u h m l b : Nat) (hu : u = 0 ∨ u = 8 ∨ u = 16 ∨ u = 24) (hh : h < 2 ^ (24 - u)) (hm : m < 256) (hl : l < 2 ^ u) (hb : b < 256) :
    ((2 ^ (u + 8) * h + (2 ^ u * m + l)) &&& (4294967295 - 255 * 2 ^ u)) ||| (b * 2 ^ u) = 2 ^ (u + 8) * h + (2 ^ u * b + l) := by
  have hlow : 2 ^ u * m + l < 2 ^ (u + 8) := by
    rw [Nat.pow_add]
    have : 2 ^ u * m ≤ 2 ^ u * 255 := Nat.mul_le_mul_left _ (by omega)
    omega
  have hlow2 : 2 ^ u * b + l < 2 ^ (u + 8) := by
    rw [Nat.pow_add]
    have : 2 ^ u * b ≤ 2 ^ u * 255 := Nat.mul_le_mul_left _ (by omega)
    omega
  have hp : 0 < 2 ^ u := Nat.pow_pos (by decide)
  have hmask : 4294967295 - 255 * 2 ^ u = 2 ^ (u + 8) * (2 ^ (24 - u) - 1) + (2 ^ u * 0 + (2 ^ u - 1)) := by rcases hu with rfl | rfl | rfl | rfl <;> rfl
  have hq : 2 ^ u * 0 + (2 ^ u - 1) < 2 ^ (u + 8) := by
    rw [Nat.pow_add]
    omega
  have h1 : h &&& (2 ^ (24 - u) - 1) = h := by
    rw [Nat.and_two_pow_sub_one_eq_mod, Nat.mod_eq_of_lt hh]
  have h2 : l &&& (2 ^ u - 1) = l := by
    rw [Nat.and_two_pow_sub_one_eq_mod, Nat.mod_eq_of_lt hl]
  have hlb : 2 ^ u * 0 + l < 2 ^ (u + 8) := by rw [Nat.pow_add]; omega
  have hb2 : 2 ^ u * b + 0 < 2 ^ (u + 8) := by
    rw [Nat.pow_add]
    have : 2 ^ u * b ≤ 2 ^ u * 255 := Nat.mul_le_mul_left _ (by omega)
    omega
  rw [hmask, and_split (u + 8) h (2 ^ u * m + l) _ _ hlow hq, and_split u m l 0 (2 ^ u - 1) hl (by omega), h1, h2, Nat.and_zero]
  have e : b * 2 ^ u = 2 ^ (u + 8) * 0 + (2 ^ u * b + 0) := by rw [Nat.mul_comm b]; omega
  rw [e, or_split (u + 8) h (2 ^ u * 0 + l) 0 (2 ^ u * b + 0) hlb hb2, or_split u 0 l b 0 hl hp, Nat.or_zero, Nat.or_zero, Nat.zero_or]
def gather (g : Nat → Int) : Nat → Int
  | 0 => 0
  | n + 1 => 256 * gather g n + g n
theorem gather_load (ws : List Int) (a : Nat) : ∀ k, loadN ws a k = gather (fun i => byteAt ws (a + i)) k
  | 0 => rfl
  | k + 1 => by rw [loadN, gather, gather_load ws a k]
theorem gather_congr {g h : Nat → Int} : ∀ k, (∀ i, i < k → g i = h i) → gather g k = gather h k
  | 0, _ => rfl
  | k + 1, e => by rw [gather, gather, gather_congr k (fun i hi => e i (by omega)), e k (by omega)]
def updG (g : Nat → Int) (i : Nat) (b : Int) : Nat → Int := fun j => if j = i then b else g j
theorem patch_word (g : Nat → Int) (hg : ∀ i, 0 ≤ g i ∧ g i < 256) (k i : Nat) (hk : k = 1 ∨ k = 2 ∨ k = 4) (hi : i < k) (b : Int) (b0 : 0 ≤ b) (b1 : b < 256) :
    bits .or .u32 (bits .andNot .u32 (gather g k) (255 * 2 ^ (8 * (k - 1 - i)) % 4294967296)) (b * 2 ^ (8 * (k - 1 - i)) % 4294967296) = gather (updG g i b) k := by
  have key : ∀ (u h m l : Nat) (x : Nat), (u = 0 ∨ u = 8 ∨ u = 16 ∨ u = 24) → h < 2 ^ (24 - u) → m < 256 → l < 2 ^ u → x < 256 →
      bits .or .u32 (bits .andNot .u32 ((2 ^ (u + 8) * h + (2 ^ u * m + l) : Nat) : Int) (255 * 2 ^ u % 4294967296)) ((x : Int) * 2 ^ u % 4294967296) = ((2 ^ (u + 8) * h + (2 ^ u * x + l) : Nat) : Int) := by
    intro u h m l x hu hh hm hl hx
    have hbd : ∀ y, y < 256 → 2 ^ (u + 8) * h + (2 ^ u * y + l) < 4294967296 := by
      intro y hy
      have h1 : 2 ^ (u + 8) * h + 2 ^ (u + 8) ≤ 2 ^ (u + 8) * 2 ^ (24 - u) := by
        rw [← Nat.mul_succ]
        exact Nat.mul_le_mul_left _ hh
      have h2 : 2 ^ (u + 8) * 2 ^ (24 - u) = 4294967296 := by rcases hu with rfl | rfl | rfl | rfl <;> rfl
      have h3 : 2 ^ u * y + l < 2 ^ (u + 8) := by
        rw [Nat.pow_add]
        have : 2 ^ u * y ≤ 2 ^ u * 255 := Nat.mul_le_mul_left _ (by omega)
        omega
      omega
    have e1 : (255 * 2 ^ u % 4294967296 : Int) = ((255 * 2 ^ u : Nat) : Int) := by rcases hu with rfl | rfl | rfl | rfl <;> rfl
    have e2 : ((x : Int) * 2 ^ u % 4294967296) = ((x * 2 ^ u : Nat) : Int) := by
      rcases hu with rfl | rfl | rfl | rfl <;> simp <;> omega
    have hx2 : x * 2 ^ u < 4294967296 := by rcases hu with rfl | rfl | rfl | rfl <;> simp <;> omega
    have hmk : 255 * 2 ^ u < 4294967296 := by rcases hu with rfl | rfl | rfl | rfl <;> decide
    rw [e1, e2, u32_andNot_nat _ _ (hbd m hm) hmk, u32_or_nat _ _ (Nat.lt_of_le_of_lt Nat.and_le_left (hbd m hm)) hx2, patch_nat u h m l x hu hh hm hl hx]
  obtain ⟨x, rfl⟩ := Int.eq_ofNat_of_zero_le b0
  have hx : x < 256 := by omega
  have hn : ∀ j, ∃ y : Nat, g j = (y : Int) ∧ y < 256 := fun j => ⟨(g j).toNat, by have := hg j; omega, by have := hg j; omega⟩
  obtain ⟨y0, e0, h0⟩ := hn 0
  obtain ⟨y1, e1, h1⟩ := hn 1
  obtain ⟨y2, e2, h2⟩ := hn 2
  obtain ⟨y3, e3, h3⟩ := hn 3
  have fin : ∀ (u h m l : Nat) (A B : Int), (u = 0 ∨ u = 8 ∨ u = 16 ∨ u = 24) → h < 2 ^ (24 - u) → m < 256 → l < 2 ^ u →
      A = ((2 ^ (u + 8) * h + (2 ^ u * m + l) : Nat) : Int) → B = ((2 ^ (u + 8) * h + (2 ^ u * x + l) : Nat) : Int) →
      bits .or .u32 (bits .andNot .u32 A (255 * 2 ^ u % 4294967296)) ((x : Int) * 2 ^ u % 4294967296) = B := by
    intro u h m l A B hu hh hm hl hA hB
    subst hA
    subst hB
    exact key u h m l x hu hh hm hl hx
  rcases hk with rfl | rfl | rfl
  · obtain rfl : i = 0 := by omega
    exact fin 0 0 y0 0 _ _ (by decide) (by decide) h0 (by decide) (by simp [gather, e0]) (by simp [gather, updG])
  · have hi2 : i = 0 ∨ i = 1 := by omega
    rcases hi2 with rfl | rfl
    · exact fin 8 0 y0 y1 _ _ (by decide) (by decide) h0 (by omega) (by simp [gather, e0, e1]) (by simp [gather, updG, e1])
    · exact fin 0 y0 y1 0 _ _ (by decide) (by omega) h1 (by decide) (by simp [gather, e0, e1]) (by simp [gather, updG, e0])
  · have hi2 : i = 0 ∨ i = 1 ∨ i = 2 ∨ i = 3 := by omega
    rcases hi2 with rfl | rfl | rfl | rfl
    · exact fin 24 0 y0 (65536 * y1 + (256 * y2 + y3)) _ _ (by decide) (by decide) h0 (by omega) (by simp [gather, e0, e1, e2, e3]; omega) (by simp [gather, updG, e1, e2, e3]; omega)
    · exact fin 16 y0 y1 (256 * y2 + y3) _ _ (by decide) (by omega) h1 (by omega) (by simp [gather, e0, e1, e2, e3]; omega) (by simp [gather, updG, e0, e2, e3]; omega)
    · exact fin 8 (256 * y0 + y1) y2 y3 _ _ (by decide) (by omega) h2 (by omega) (by simp [gather, e0, e1, e2, e3]; omega) (by simp [gather, updG, e0, e1, e3]; omega)
    · exact fin 0 (65536 * y0 + (256 * y1 + y2)) y3 0 _ _ (by decide) (by omega) h3 (by decide) (by simp [gather, e0, e1, e2, e3]; omega) (by simp [gather, updG, e0, e1, e2]; omega)
end Go.Proofs.YtlnefmgiiogcmaaGreatDoor
namespace Go.Proofs.YtlnefmgiiogcmaaGreatDoor
open Go.RowKit
structure StoW where
  addr : Nat
  size : Nat
  v : Int
structure StoOK (s : StoW) : Prop where
  size : s.size = 1 ∨ s.size = 2 ∨ s.size = 4
  fit : s.addr + s.size ≤ 16384
  v : Reg32 s.v
def applyW (ws : List Int) (W : List StoW) : List Int := W.foldl (fun ws s => storeN s.addr s.size s.v s.size ws) ws
theorem applyW_snoc (ws : List Int) (W : List StoW) (s : StoW) : applyW ws (W ++ [s]) = storeN s.addr s.size s.v s.size (applyW ws W) := by simp [applyW]
theorem applyW_take (ws : List Int) (W : List StoW) (j : Nat) (hj : j < W.length) : applyW ws (W.take (j + 1)) = storeN (W[j]'hj).addr (W[j]'hj).size (W[j]'hj).v (W[j]'hj).size (applyW ws (W.take j)) := by
  rw [List.take_succ_eq_append_getElem hj, applyW_snoc]
theorem applyW_len : ∀ (W : List StoW) (ws : List Int), (applyW ws W).length = ws.length
  | [], _ => rfl
  | s :: W, ws => by rw [applyW, List.foldl_cons]; exact (applyW_len W _).trans (storeN_len _ _ _ _ _)
theorem applyW_ok : ∀ (W : List StoW) {ws : List Int}, WsOK ws → WsOK (applyW ws W)
  | [], _, h => h
  | s :: W, ws, h => by rw [applyW, List.foldl_cons]; exact applyW_ok W (store_ok h _ _ _ _)
theorem byte_mod (v : Int) (n : Nat) : 0 ≤ v / 2 ^ n % 256 ∧ v / 2 ^ n % 256 < 256 := ⟨Int.emod_nonneg _ (by decide), Int.emod_lt_of_pos _ (by decide)⟩
theorem byte_store {ws : List Int} (hw : WsOK ws) (hl : ws.length = 4096) (a n : Nat) (v : Int) (hf : a + n ≤ 16384) (i : Nat) : ∀ m, m ≤ n →
    byteAt (storeN a n v m ws) i = if a ≤ i ∧ i < a + m then v / 2 ^ (8 * (n - 1 - (i - a))) % 256 else byteAt ws i
  | 0, _ => by rw [storeN, if_neg (by omega)]
  | m + 1, hm => by
    rw [storeN, byteAt_put (store_ok hw a n v m) (by rw [storeN_len, hl]) (a + m) i (by omega) (byte_mod v _).1 (byte_mod v _).2, byte_store hw hl a n v hf i m (by omega)]
    by_cases e : i = a + m
    · subst e
      rw [if_pos rfl, if_pos (by omega), show a + m - a = m by omega]
    · rw [if_neg e]
      by_cases e2 : a ≤ i ∧ i < a + m
      · rw [if_pos e2, if_pos (by omega)]
      · rw [if_neg e2, if_neg (by omega)]
def partG (ws : List Int) (W : List StoW) (a i j : Nat) : Nat → Int := fun t => if t < i then byteAt (applyW ws W) (a + t) else if t = i then byteAt (applyW ws (W.take j)) (a + t) else byteAt ws (a + t)
theorem partG_ok (ws : List Int) (W : List StoW) (a i j t : Nat) : 0 ≤ partG ws W a i j t ∧ partG ws W a i j t < 256 := by
  unfold partG
  split
  · exact byte_ok _ _
  · split <;> exact byte_ok _ _
theorem partG_zero (ws : List Int) (W : List StoW) (a k : Nat) : gather (partG ws W a 0 0) k = loadN ws a k := by
  rw [gather_load]
  refine gather_congr k (fun t ht => ?_)
  unfold partG
  rw [if_neg (Nat.not_lt_zero t)]
  split <;> rfl
theorem partG_row (ws : List Int) (W : List StoW) (a i k : Nat) : gather (partG ws W a i W.length) k = gather (partG ws W a (i + 1) 0) k := by
  refine gather_congr k (fun t ht => ?_)
  unfold partG
  rw [List.take_length, List.take_zero]
  by_cases e : t < i
  · rw [if_pos e, if_pos (by omega)]
  · rw [if_neg e]
    by_cases e2 : t = i
    · rw [if_pos e2, if_pos (by omega)]
    · rw [if_neg e2, if_neg (by omega)]
      split <;> rfl
theorem partG_all (ws : List Int) (W : List StoW) (a k : Nat) : gather (partG ws W a k 0) k = loadN (applyW ws W) a k := by
  rw [gather_load]
  refine gather_congr k (fun t ht => ?_)
  unfold partG
  rw [if_pos ht]
theorem partG_miss {ws : List Int} (hw : WsOK ws) (hl : ws.length = 4096) (W : List StoW) (a i j k : Nat) (hj : j < W.length) (hs : StoOK (W[j]'hj)) (hn : ¬ ((W[j]'hj).addr ≤ a + i ∧ a + i < (W[j]'hj).addr + (W[j]'hj).size)) :
    gather (partG ws W a i (j + 1)) k = gather (partG ws W a i j) k := by
  refine gather_congr k (fun t ht => ?_)
  unfold partG
  split
  · rfl
  · split
    · rename_i e
      rw [applyW_take ws W j hj, byte_store (applyW_ok _ hw) (by rw [applyW_len, hl]) _ _ _ hs.fit _ _ (Nat.le_refl _), if_neg (by rw [e]; exact hn)]
    · rfl
theorem partG_hit {ws : List Int} (hw : WsOK ws) (hl : ws.length = 4096) (W : List StoW) (a i j k : Nat) (hk : k = 1 ∨ k = 2 ∨ k = 4) (hi : i < k) (hj : j < W.length) (hs : StoOK (W[j]'hj)) (hn : (W[j]'hj).addr ≤ a + i ∧ a + i < (W[j]'hj).addr + (W[j]'hj).size) :
    bits .or .u32 (bits .andNot .u32 (gather (partG ws W a i j) k) (255 * 2 ^ (8 * (k - 1 - i)) % 4294967296)) ((W[j]'hj).v / 2 ^ (8 * ((W[j]'hj).size - 1 - (a + i - (W[j]'hj).addr))) % 256 * 2 ^ (8 * (k - 1 - i)) % 4294967296) = gather (partG ws W a i (j + 1)) k := by
  rw [patch_word (partG ws W a i j) (fun t => partG_ok ws W a i j t) k i hk hi _ (byte_mod _ _).1 (byte_mod _ _).2]
  refine gather_congr k (fun t ht => ?_)
  unfold updG partG
  by_cases e : t = i
  · subst e
    rw [if_pos rfl, if_neg (Nat.lt_irrefl t), if_pos rfl, applyW_take ws W j hj, byte_store (applyW_ok _ hw) (by rw [applyW_len, hl]) _ _ _ hs.fit _ _ (Nat.le_refl _), if_pos hn]
  · rw [if_neg e]
    split
    · rfl
    · simp only [if_neg e]
theorem gather_range (g : Nat → Int) (hg : ∀ i, 0 ≤ g i ∧ g i < 256) : ∀ k, 0 ≤ gather g k ∧ gather g k < 256 ^ k
  | 0 => by simp [gather]
  | k + 1 => by
    have h1 := gather_range g hg k
    have h2 := hg k
    rw [gather, Int.pow_succ]
    omega
end Go.Proofs.YtlnefmgiiogcmaaGreatDoor
