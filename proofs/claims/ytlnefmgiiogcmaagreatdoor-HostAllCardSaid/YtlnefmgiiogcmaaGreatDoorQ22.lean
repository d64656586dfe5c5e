/- The walk of ir's do at sums of two registers. Conditions: as each theorem states. -/
import Derived.Test.YtlnefmgiiogcmaaGreatDoorQ20
set_option linter.unusedVariables false
set_option linter.unusedSimpArgs false
namespace Go.Proofs.YtlnefmgiiogcmaaGreatDoor
open Go.RowKit
set_option maxHeartbeats 8000000 in
set_option maxRecDepth 100000 in
theorem doP_sum {X : Regs} (k : OpK) (hk : isSumK k = true) (hR : RegsOK X) {w : World} {mb d a n : Nat} {b im : Int} {rv wv : Value} (h : MpB w mb X rv wv) (hd : d < 64) (ha : a < 64) (hb0 : 0 ≤ b) (hb1 : b < 64) :
    Calls Tryz.prog 33 #[.pointer (some ⟨mb, 0, none⟩), .agg #[.string k.lit, .int .i64 (d : Int), .int .i64 (a : Int), .int .i64 b, .int .u32 im, .int .i64 (n : Int)]] w fun e w' => e = .returned (.bool true) ∧ MpB w' mb (updR X d (valK k (X a) (X b.toNat) (X d))) rv wv ∧ Kept (fun k => k = mb) w w' := by
  obtain ⟨bn, rfl⟩ := Int.eq_ofNat_of_zero_le hb0
  have hbn : bn < 64 := by omega
  have hb' := (Below.refl w.heap.size w).alloc (Nat.le_refl _) (.cells #[.string k.lit, .int .i64 (d : Int), .int .i64 (a : Int), .int .i64 (bn : Int), .int .u32 im, .int .i64 (n : Int)] 61)
  have HM0 : Hid (MpB (w.alloc (.cells #[.string k.lit, .int .i64 (d : Int), .int .i64 (a : Int), .int .i64 (bn : Int), .int .u32 im, .int .i64 (n : Int)] 61)) mb X rv wv) := Lib.hid (h.of_block (hb'.block mb h.lt))
  have HBX : Hid ((w.alloc (.cells #[.string k.lit, .int .i64 (d : Int), .int .i64 (a : Int), .int .i64 (bn : Int), .int .u32 im, .int .i64 (n : Int)] 61)).heap[w.heap.size]? = some (.cells #[.string k.lit, .int .i64 (d : Int), .int .i64 (a : Int), .int .i64 (bn : Int), .int .u32 im, .int .i64 (n : Int)] 61 (0, 0))) := Lib.hid (heap_alloc_new w _)
  have HK0 := Lib.hid (Kept.of_below (S := fun k => k = mb) hb')
  have HLT := Lib.hid h.lt
  have HN := Lib.hid (And.intro hd (And.intro ha hbn))
  have iD : (d : Int) < 64 := by omega
  have iA : (a : Int) < 64 := by omega
  have iB : (bn : Int) < 64 := by omega
  have HV := Lib.hid (fun wx => (irValue_sum k hk (X a) (X bn) (X d) (hR a) (hR bn) wx).mono (fun _ _ h => And.intro h.1 h.2.symm))
  show Calls _ _ _ _ fun e w' => _ ∧ MpB w' mb (updR X d (valK k (X a) (X bn) (X d))) rv wv ∧ _
  generalize hze : valK k (X a) (X bn) (X d) = z at HV ⊢
  clear hze
  clear h hb' hd ha hb0 hb1 hbn
  clear hR
  cases k <;> first | (exact absurd (show false = true from hk) (by decide)) | skip
  all_goals
    clear hk
    simp only [OpK.lit] at HV HM0 HBX HK0
    simp only [OpK.lit]
    go_enter Tryz.func33, Tryz.ntmps33
    go_wp2_with fail
    generalize w.alloc _ = W at *
    obtain ⟨c0, c1, c2, c3, c4, c5⟩ := six_cells HBX.out
    have hx := HM0.out.reg HN.out.2.1
    go_still (by kernel_rfl)
    change Exit.then _ _ Exit.normal _ W.drew
    have HBX1 : Hid (W.drew.heap[w.heap.size]? = _) := HBX
    have HM1 := Lib.hid (show MpB W.drew mb X rv wv from HM0.out.of_block rfl)
    have HK1 := Lib.hid (HK0.out.trans (Kept.of_below (Below.refl _ W).drew))
    clear c0 c1 c2 c3 c4 c5 hx HBX HM0 HK0
    generalize W.drew = W1 at *
    obtain ⟨c0, c1, c2, c3, c4, c5⟩ := six_cells HBX1.out
    go_wp2_with fail
    have hy := HM1.out.reg HN.out.2.2
    go_still (by kernel_rfl)
    change Exit.then _ _ Exit.normal _ W1.drew
    have HBX2 : Hid (W1.drew.heap[w.heap.size]? = _) := HBX1
    have HM2 := Lib.hid (show MpB W1.drew mb X rv wv from HM1.out.of_block rfl)
    have HK2 := Lib.hid (HK1.out.trans (Kept.of_below (Below.refl _ W1).drew))
    clear c0 c1 c2 c3 c4 c5 hy HBX1 HM1 HK1
    generalize W1.drew = W2 at *
    obtain ⟨c0, c1, c2, c3, c4, c5⟩ := six_cells HBX2.out
    go_wp2_with fail
    have hz := HM2.out.reg HN.out.1
    have hzf := HM2.out.free d
    have HM3 := Lib.hid ((show MpB W2.drew mb X rv wv from HM2.out.of_block rfl).set HN.out.1 (z))
    have HK3 := Lib.hid ((HK2.out.trans (Kept.of_below (Below.refl _ W2).drew)).trans (Kept.set W2.drew mb d (.int .u32 (z))))
    refine wp_region_still_tail 18 (by kernel_rfl) (by kernel_rfl) ?_
    simp only [List.take_succ_cons, List.take_zero, List.drop_succ_cons, List.drop_zero]
    repeat still_step
    still_call (HV.out _)
    repeat still_step
    try refine wpStill_nil ?_
    change wpList _ _ _ _ _ W2.drew
    have hzd : W2.drew.cell? ⟨mb, d, none⟩ = some _ := hz
    have hzfd : W2.drew.frozen? ⟨mb, d, none⟩ = false := hzf
    clear hz hzf c0 c1 c2 c3 c4 c5
    generalize W2.drew = W3 at *
    go_wp2
    go_ret
    exact ⟨rfl, HM3.out, HK3.out⟩
end Go.Proofs.YtlnefmgiiogcmaaGreatDoor
