/- The walk of ir's do at quotients. Conditions: as each theorem states. -/
import Derived.Test.YtlnefmgiiogcmaaGreatDoorQ20
import Derived.Deep.RegionHeld3
set_option linter.unusedVariables false
set_option linter.unusedSimpArgs false
namespace Go.Proofs.YtlnefmgiiogcmaaGreatDoor
open Go.RowKit
theorem wp_merge0 {P : Program} {c : Code} {Q : Exit → Act → World → Prop} {a : Act} {w : World} (A : Act) (R : World → Prop) (h : c.wp P (fun e a' w' => e = Exit.normal ∧ a' = A ∧ R w') a w) (hq : ∀ w', R w' → Q Exit.normal A w') : c.wp P Q a w :=
  wp_mono h (fun e a' w' hh => by
    obtain ⟨rfl, rfl, hr⟩ := hh
    exact hq w' hr)
theorem div_lits (k : OpK) (hk : divO k = true) (L : List UInt8) (h : L ∈ [[115, 101, 116], [99, 111, 112, 121], [111, 118, 101, 114, 43], [111, 118, 101, 114, 45], [108, 111, 97, 100], [115, 116, 111, 114, 101], [105, 102], [111, 117, 116], [111, 117, 116, 114]]) : (k.lit.toList == L) = false ∧ ¬ k.lit.toList = L := by
  cases k <;> first | (exact absurd (show false = true from hk) (by decide)) | skip
  all_goals
    simp only [List.mem_cons, List.not_mem_nil, or_false] at h
    rcases h with rfl | rfl | rfl | rfl | rfl | rfl | rfl | rfl | rfl <;> exact ⟨by decide +kernel, by decide +kernel⟩
set_option maxHeartbeats 8000000 in
set_option maxRecDepth 100000 in
theorem doP_div {X : Regs} (k : OpK) (hk : divO k = true) (hR : RegsOK X) {w : World} {mb d a n : Nat} {b im : Int} {rv wv : Value} (h : MpB w mb X rv wv) (hd : d < 64) (ha : a < 64) (hb0 : 0 ≤ b) (hb1 : b < 64) :
    Calls Tryz.prog 33 #[.pointer (some ⟨mb, 0, none⟩), .agg #[.string k.lit, .int .i64 (d : Int), .int .i64 (a : Int), .int .i64 b, .int .u32 im, .int .i64 (n : Int)]] w fun e w' => e = .returned (.bool true) ∧ MpB w' mb (updR X d (valK k (X a) (X b.toNat) (X d))) rv wv ∧ Kept (fun k => k = mb) w w' := by
  obtain ⟨bn, rfl⟩ := Int.eq_ofNat_of_zero_le hb0
  have hbn : bn < 64 := by omega
  have hb' := (Below.refl w.heap.size w).alloc (Nat.le_refl _) (.cells #[.string k.lit, .int .i64 (d : Int), .int .i64 (a : Int), .int .i64 (bn : Int), .int .u32 im, .int .i64 (n : Int)] 61)
  have HM0 : Hid (MpB (w.alloc (.cells #[.string k.lit, .int .i64 (d : Int), .int .i64 (a : Int), .int .i64 (bn : Int), .int .u32 im, .int .i64 (n : Int)] 61)) mb X rv wv) := Lib.hid (h.of_block (hb'.block mb h.lt))
  have HBX : Hid ((w.alloc (.cells #[.string k.lit, .int .i64 (d : Int), .int .i64 (a : Int), .int .i64 (bn : Int), .int .u32 im, .int .i64 (n : Int)] 61)).heap[w.heap.size]? = some (.cells #[.string k.lit, .int .i64 (d : Int), .int .i64 (a : Int), .int .i64 (bn : Int), .int .u32 im, .int .i64 (n : Int)] 61 (0, 0))) := Lib.hid (heap_alloc_new w _)
  have HK0 := Lib.hid (Kept.of_below (S := fun k => k = mb) hb')
  have HLT := Lib.hid h.lt
  have HN := Lib.hid (And.intro hd (And.intro ha hbn))
  have iD : (d : Int) < 64 := by omega
  have iA : (a : Int) < 64 := by omega
  have iB : (bn : Int) < 64 := by omega
  have HV := Lib.hid (fun wx => irValue_div k hk (X a) (X bn) (X d) (hR a) (hR bn) wx)
  show Calls _ _ _ _ fun e w' => _ ∧ MpB w' mb (updR X d (valK k (X a) (X bn) (X d))) rv wv ∧ _
  generalize hze : valK k (X a) (X bn) (X d) = z at HV ⊢
  clear hze
  clear h hb' hd ha hb0 hb1 hbn
  clear hR
  obtain ⟨kl, hkl⟩ : ∃ kl : ByteArray, kl = k.lit := ⟨_, rfl⟩
  have HDL := Lib.hid (fun L h => div_lits k hk L h)
  rw [← hkl] at HM0 HBX HK0 HV HDL ⊢
  clear hkl hk
  obtain ⟨e1, f1⟩ := HDL.out [115, 101, 116] (by simp)
  obtain ⟨e2, f2⟩ := HDL.out [99, 111, 112, 121] (by simp)
  obtain ⟨e3, f3⟩ := HDL.out [111, 118, 101, 114, 43] (by simp)
  obtain ⟨e4, f4⟩ := HDL.out [111, 118, 101, 114, 45] (by simp)
  obtain ⟨e5, f5⟩ := HDL.out [108, 111, 97, 100] (by simp)
  obtain ⟨e6, f6⟩ := HDL.out [115, 116, 111, 114, 101] (by simp)
  go_enter Tryz.func33, Tryz.ntmps33
  go_wp2_with fail
  generalize w.alloc _ = W at *
  obtain ⟨c0, c1, c2, c3, c4, c5⟩ := six_cells HBX.out
  have hx := HM0.out.reg HN.out.2.1
  go_still (by kernel_rfl)
  change Exit.then _ _ Exit.normal _ W.drew
  have HBX1 : Hid (W.drew.heap[w.heap.size]? = _) := HBX
  have HM1 := Lib.hid (show MpB W.drew mb X rv wv from HM0.out.of_block rfl)
  have HK1 := Lib.hid (HK0.out.trans (Kept.of_below (Below.refl _ W).drew))
  clear c0 c1 c2 c3 c4 c5 hx HBX HM0 HK0
  generalize W.drew = W1 at *
  obtain ⟨c0, c1, c2, c3, c4, c5⟩ := six_cells HBX1.out
  go_wp2_with fail
  have hy := HM1.out.reg HN.out.2.2
  go_still (by kernel_rfl)
  change Exit.then _ _ Exit.normal _ W1.drew
  have HBX2 : Hid (W1.drew.heap[w.heap.size]? = _) := HBX1
  have HM2 := Lib.hid (show MpB W1.drew mb X rv wv from HM1.out.of_block rfl)
  have HK2 := Lib.hid (HK1.out.trans (Kept.of_below (Below.refl _ W1).drew))
  clear c0 c1 c2 c3 c4 c5 hy HBX1 HM1 HK1
  generalize W1.drew = W2 at *
  obtain ⟨c0, c1, c2, c3, c4, c5⟩ := six_cells HBX2.out
  go_wp2_with fail
  have hz := HM2.out.reg HN.out.1
  have hzf := HM2.out.free d
  have HKS := Lib.hid (fun (w' : World) (hb : Below W2.heap.size W2 w') => And.intro ((hb.cell (World.block_lt_of_cell? _ _ c0)).trans c0) ((hb.cell (World.block_lt_of_cell? _ _ c1)).trans c1))
  have HNE : Hid (w.heap.size ≠ mb) := Lib.hid (by have := HLT.out; omega)
  have HMB := Lib.hid (fun (w' : World) (hb : Below W2.heap.size W2 w') => show MpB w' mb X rv wv from HM2.out.of_block (hb.block mb HM2.out.lt))
  have HKA := HKS.out _ (Below.refl _ _).drew
  obtain ⟨ka0, ka1⟩ := HKA
  apply wp_merge0 (R := fun w' => MpB w' mb (updR X d z) rv wv ∧ Kept (fun k => k = mb) w w')
  case h =>
    refine wp_region_noPanic ?_
    go_region_with (go_at_call 48; refine (HV.out _).mono ?_; rintro e w4 ⟨rfl, hb4'⟩; have hb4 := (Below.refl W2.heap.size W2).drew.trans hb4'; have hks4 := HKS.out _ hb4; have hz4 := (HMB.out _ hb4).reg HN.out.1; have hf4 := (HMB.out _ hb4).free d; obtain ⟨kb0, kb1⟩ := hks4)
    all_goals exact NoPanic.normal ⟨rfl, rfl, (HMB.out _ hb4).set HN.out.1 z, (HK2.out.trans (Kept.of_below hb4)).trans (Kept.set w4 mb d (.int .u32 z))⟩
  case hq =>
    rintro W5 ⟨h1, h2⟩
    have HM3 := Lib.hid h1
    have HK3 := Lib.hid h2
    clear h1 h2 HKS HMB hz hzf c0 c1 c2 c3 c4 c5 ka0 ka1
    go_wp2
    go_ret
    exact ⟨rfl, HM3.out, HK3.out⟩
end Go.Proofs.YtlnefmgiiogcmaaGreatDoor
