/- The walk of host's read at any op that is no load. The document's steps in plain words, and that they go as walkZ says. No program in sight. The walk of law3's stepsOf. The walk of ir's Leave where no store waits. The walk of ir's Leave where stores wait. Conditions: as each theorem states. -/
import Derived.Test.YtlnefmgiiogcmaaGreatDoorQ25
import Derived.Test.YtlnefmgiiogcmaaGreatDoorQ20
import Derived.Deep.RegionHeldLaw
import Derived.Deep.MidRow
import Derived.Test.YtlnefmgiiogcmaaGreatDoorQ13
import Derived.Maps.OwnRows
set_option linter.unusedVariables false
set_option linter.unusedSimpArgs false
namespace Go.Proofs.YtlnefmgiiogcmaaGreatDoor
open Go.RowKit
theorem eight_cells {w : World} {b : Nat} {t : TypeId} {a0 a1 a2 a3 a4 a5 a6 a7 : Value} (h : w.heap[b]? = some (Obj.cells #[a0, a1, a2, a3, a4, a5, a6, a7] t (0, 0))) :
    (w.cell? ⟨b, 0, none⟩ = some a0 ∧ w.cell? ⟨b, 1, none⟩ = some a1 ∧ w.cell? ⟨b, 2, none⟩ = some a2 ∧ w.cell? ⟨b, 3, none⟩ = some a3 ∧ w.cell? ⟨b, 4, none⟩ = some a4 ∧ w.cell? ⟨b, 5, none⟩ = some a5 ∧ w.cell? ⟨b, 6, none⟩ = some a6 ∧ w.cell? ⟨b, 7, none⟩ = some a7) ∧ ∀ i, w.frozen? ⟨b, i, none⟩ = false := by
  refine ⟨⟨?_, ?_, ?_, ?_, ?_, ?_, ?_, ?_⟩, fun i => ?_⟩ <;> simp [World.cell?, World.frozen?, h]
theorem put8 {w : World} {b : Nat} {t : TypeId} {a0 a1 a2 a3 a4 a5 a6 a7 : Value} (h : w.heap[b]? = some (Obj.cells #[a0, a1, a2, a3, a4, a5, a6, a7] t (0, 0))) (v0 v1 v2 v3 v4 v5 v6 v7 : Value) :
    ((((((((w.setCell ⟨b, 0, none⟩ v0).setCell ⟨b, 1, none⟩ v1).setCell ⟨b, 2, none⟩ v2).setCell ⟨b, 3, none⟩ v3).setCell ⟨b, 4, none⟩ v4).setCell ⟨b, 5, none⟩ v5).setCell ⟨b, 6, none⟩ v6).setCell ⟨b, 7, none⟩ v7).heap[b]? = some (Obj.cells #[v0, v1, v2, v3, v4, v5, v6, v7] t (0, 0)) := by
  have := Joins.block_setCell (i := 7) (Joins.block_setCell (i := 6) (Joins.block_setCell (i := 5) (Joins.block_setCell (i := 4) (Joins.block_setCell (i := 3) (Joins.block_setCell (i := 2) (Joins.block_setCell (i := 1) (Joins.block_setCell (i := 0) h v0) v1) v2) v3) v4) v5) v6) v7
  simpa only [List.setIfInBounds_toArray, List.set_cons_zero, List.set_cons_succ] using this
theorem put8_other {w : World} {b k : Nat} (h : k ≠ b) (v0 v1 v2 v3 v4 v5 v6 v7 : Value) :
    ((((((((w.setCell ⟨b, 0, none⟩ v0).setCell ⟨b, 1, none⟩ v1).setCell ⟨b, 2, none⟩ v2).setCell ⟨b, 3, none⟩ v3).setCell ⟨b, 4, none⟩ v4).setCell ⟨b, 5, none⟩ v5).setCell ⟨b, 6, none⟩ v6).setCell ⟨b, 7, none⟩ v7).heap[k]? = w.heap[k]? := by
  simp only [setCell_other _ b _ k _ h]
theorem put8_below {w W : World} {B b : Nat} (h : Below B w W) (hb : B ≤ b) (v0 v1 v2 v3 v4 v5 v6 v7 : Value) :
    Below B w ((((((((W.setCell ⟨b, 0, none⟩ v0).setCell ⟨b, 1, none⟩ v1).setCell ⟨b, 2, none⟩ v2).setCell ⟨b, 3, none⟩ v3).setCell ⟨b, 4, none⟩ v4).setCell ⟨b, 5, none⟩ v5).setCell ⟨b, 6, none⟩ v6).setCell ⟨b, 7, none⟩ v7) :=
  (((((((h.setCell (p := ⟨b, 0, none⟩) hb v0).setCell (p := ⟨b, 1, none⟩) hb v1).setCell (p := ⟨b, 2, none⟩) hb v2).setCell (p := ⟨b, 3, none⟩) hb v3).setCell (p := ⟨b, 4, none⟩) hb v4).setCell (p := ⟨b, 5, none⟩) hb v5).setCell (p := ⟨b, 6, none⟩) hb v6).setCell (p := ⟨b, 7, none⟩) hb v7
theorem lit_ne_load {k : OpK} (h : k ≠ .load) : (k.lit.toList == [108, 111, 97, 100]) = false ∧ ¬ k.lit.toList = [108, 111, 97, 100] := by
  cases k <;> first | exact absurd rfl h | exact ⟨by decide +kernel, by decide +kernel⟩
def HReadP (w : World) (k : OpK) (d a : Nat) (b im : Int) (n : Nat) (v z : Int) (q : Bool) (e : Ending) (w' : World) : Prop := e = .returned (.tuple #[.agg #[.string k.lit, .int .i64 (d : Int), .int .i64 (a : Int), .int .i64 b, .int .u32 im, .int .i64 (n : Int), .int .u32 v, .int .u32 z], .bool q]) ∧ Below w.heap.size w w'
set_option maxHeartbeats 32000000 in
set_option maxRecDepth 100000 in
theorem hread_at {X : Regs} (hR : RegsOK X) (us : List Int) (wt : Nat → Bool) (k : OpK) (hk : k ≠ .load) {w : World} {mb d a n : Nat} {b im : Int} {rv wv : Value} (h : MpB w mb X rv wv) (hd : d < 64) (ha : a < 64) (hb0 : 0 ≤ b) (hb1 : b < 64)
    (hM : k = .store → ∀ wx, Below w.heap.size w wx → Calls Tryz.prog 59 #[.pointer (some ⟨mb, 0, none⟩), .int .u32 ((X a + im) % 4294967296), .int .i64 (d : Int)] wx fun e w' => e = .returned (.bool (!trapO wt ⟨k, d, a, b, im, n⟩ X)) ∧ wx = w') :
    Calls Tryz.prog 63 #[.pointer (some ⟨mb, 0, none⟩), .agg #[.string k.lit, .int .i64 (d : Int), .int .i64 (a : Int), .int .i64 b, .int .u32 im, .int .i64 (n : Int)]] w fun e w' => HReadP w k d a b im n (resV ⟨k, d, a, b, im, n⟩ X us) (resB ⟨k, d, a, b, im, n⟩ X) (!trapO wt ⟨k, d, a, b, im, n⟩ X) e w' := by
  obtain ⟨bn, rfl⟩ := Int.eq_ofNat_of_zero_le hb0
  have hbn : bn < 64 := by omega
  have HN := Lib.hid (And.intro hd (And.intro ha hbn))
  have HLT := Lib.hid h.lt
  have HMAY := Lib.hid hM
  have HRR := Lib.hid hR
  have iD : (d : Int) < 64 := by omega
  have iA : (a : Int) < 64 := by omega
  have iB : (bn : Int) < 64 := by omega
  unfold HReadP
  obtain ⟨kl, hkl⟩ : ∃ kl : ByteArray, kl = k.lit := ⟨_, rfl⟩
  obtain ⟨n1, n2⟩ := lit_ne_load hk
  rw [← hkl] at n1 n2 ⊢
  have HKL := Lib.hid hkl
  have hb1 := (Below.refl w.heap.size w).alloc (Nat.le_refl _) (.cells #[.string kl, .int .i64 (d : Int), .int .i64 (a : Int), .int .i64 (bn : Int), .int .u32 im, .int .i64 (n : Int)] 61)
  have hb2 := hb1.alloc hb1.size (.cells #[.string ⟨#[]⟩, .int .i64 0, .int .i64 0, .int .i64 0, .int .u32 0, .int .i64 0, .int .u32 0, .int .u32 0] 134)
  have HBX : Hid (((w.alloc (.cells #[.string kl, .int .i64 (d : Int), .int .i64 (a : Int), .int .i64 (bn : Int), .int .u32 im, .int .i64 (n : Int)] 61)).alloc (.cells #[.string ⟨#[]⟩, .int .i64 0, .int .i64 0, .int .i64 0, .int .u32 0, .int .i64 0, .int .u32 0, .int .u32 0] 134)).heap[w.heap.size]? = some (.cells #[.string kl, .int .i64 (d : Int), .int .i64 (a : Int), .int .i64 (bn : Int), .int .u32 im, .int .i64 (n : Int)] 61 (0, 0))) := Lib.hid ((Below.heap_alloc _ _ _ (by simp)).trans (heap_alloc_new w _))
  have HRX : Hid (((w.alloc (.cells #[.string kl, .int .i64 (d : Int), .int .i64 (a : Int), .int .i64 (bn : Int), .int .u32 im, .int .i64 (n : Int)] 61)).alloc (.cells #[.string ⟨#[]⟩, .int .i64 0, .int .i64 0, .int .i64 0, .int .u32 0, .int .i64 0, .int .u32 0, .int .u32 0] 134)).heap[w.heap.size + 1]? = some (.cells #[.string ⟨#[]⟩, .int .i64 0, .int .i64 0, .int .i64 0, .int .u32 0, .int .i64 0, .int .u32 0, .int .u32 0] 134 (0, 0))) := Lib.hid (by
    have := heap_alloc_new (w.alloc (.cells #[.string kl, .int .i64 (d : Int), .int .i64 (a : Int), .int .i64 (bn : Int), .int .u32 im, .int .i64 (n : Int)] 61)) (.cells #[.string ⟨#[]⟩, .int .i64 0, .int .i64 0, .int .i64 0, .int .u32 0, .int .i64 0, .int .u32 0, .int .u32 0] 134)
    rw [World.size_alloc] at this
    exact this)
  have HM0 : Hid (MpB _ mb X rv wv) := Lib.hid (h.of_block (hb2.block mb h.lt))
  have HB0 := Lib.hid hb2
  clear h hb1 hb2 hkl hd ha hb0 hbn hM hR
  go_enter Tryz.func63, Tryz.ntmps63
  go_wp2_with fail
  generalize (w.alloc (.cells #[.string kl, .int .i64 (d : Int), .int .i64 (a : Int), .int .i64 (bn : Int), .int .u32 im, .int .i64 (n : Int)] 61)).alloc (.cells #[.string ⟨#[]⟩, .int .i64 0, .int .i64 0, .int .i64 0, .int .u32 0, .int .i64 0, .int .u32 0, .int .u32 0] 134) = W at *
  obtain ⟨c0, c1, c2, c3, c4, c5⟩ := six_cells HBX.out
  have hx := HM0.out.reg HN.out.2.1
  go_still (by kernel_rfl)
  change Exit.then _ _ Exit.normal _ W.drew
  have HBX1 : Hid (W.drew.heap[w.heap.size]? = _) := HBX
  have HRX1 : Hid (W.drew.heap[w.heap.size + 1]? = _) := HRX
  have HM1 := Lib.hid (show MpB W.drew mb X rv wv from HM0.out.of_block rfl)
  have HB1 := Lib.hid (HB0.out.trans ((Below.refl W.heap.size W).drew.mono HB0.out.size))
  clear c0 c1 c2 c3 c4 c5 hx HBX HRX HM0 HB0
  generalize W.drew = W1 at *
  obtain ⟨c0, c1, c2, c3, c4, c5⟩ := six_cells HBX1.out
  go_wp2_with fail
  have hy := HM1.out.reg HN.out.2.2
  go_still (by kernel_rfl)
  change Exit.then _ _ Exit.normal _ W1.drew
  have HBX2 : Hid (W1.drew.heap[w.heap.size]? = _) := HBX1
  have HRX2 : Hid (W1.drew.heap[w.heap.size + 1]? = _) := HRX1
  have HM2 := Lib.hid (show MpB W1.drew mb X rv wv from HM1.out.of_block rfl)
  have HB2 := Lib.hid (HB1.out.trans ((Below.refl W1.heap.size W1).drew.mono HB1.out.size))
  clear c0 c1 c2 c3 c4 c5 hy HBX1 HRX1 HM1 HB1
  generalize W1.drew = W2 at *
  obtain ⟨c0, c1, c2, c3, c4, c5⟩ := six_cells HBX2.out
  go_upto_region 5 with fail
  have hax := (Below.refl W2.heap.size W2).alloc (Nat.le_refl _) (.cells #[.string kl, .int .i64 (d : Int), .int .i64 (a : Int), .int .i64 (bn : Int), .int .u32 im, .int .i64 (n : Int), .int .u32 0, .int .u32 0] 134)
  have HOX : Hid ((W2.alloc (.cells #[.string kl, .int .i64 (d : Int), .int .i64 (a : Int), .int .i64 (bn : Int), .int .u32 im, .int .i64 (n : Int), .int .u32 0, .int .u32 0] 134)).heap[W2.heap.size]? = some (.cells #[.string kl, .int .i64 (d : Int), .int .i64 (a : Int), .int .i64 (bn : Int), .int .u32 im, .int .i64 (n : Int), .int .u32 0, .int .u32 0] 134 (0, 0))) := Lib.hid (heap_alloc_new W2 _)
  have HBX3 := Lib.hid ((hax.block _ (Array.getElem?_eq_some_iff.1 HBX2.out).1).trans HBX2.out)
  have HRX3 := Lib.hid ((hax.block _ (Array.getElem?_eq_some_iff.1 HRX2.out).1).trans HRX2.out)
  have HM3 : Hid (MpB _ mb X rv wv) := Lib.hid (HM2.out.of_block (hax.block mb HM2.out.lt))
  have HB3 := Lib.hid (HB2.out.trans (hax.mono HB2.out.size))
  have HNE : Hid (w.heap.size + 1 < W2.heap.size ∧ mb < w.heap.size) := Lib.hid ⟨(Array.getElem?_eq_some_iff.1 HRX2.out).1, HLT.out⟩
  clear hax HBX2 HRX2 HM2 HB2 c0 c1 c2 c3 c4 c5
  generalize W2.alloc (.cells #[.string kl, .int .i64 (d : Int), .int .i64 (a : Int), .int .i64 (bn : Int), .int .u32 im, .int .i64 (n : Int), .int .u32 0, .int .u32 0] 134) = W3 at *
  generalize W2.heap.size = ob at *
  obtain ⟨c0, c1, c2, c3, c4, c5⟩ := six_cells HBX3.out
  obtain ⟨⟨o0, o1, o2, o3, o4, o5, o6, o7⟩, of⟩ := eight_cells HOX.out
  have HKQ := Lib.hid (fun (L : List UInt8) (h : (k.lit.toList == L) = false) => (show (kl.toList == L) = false ∧ ¬ kl.toList = L by rw [HKL.out]; exact ⟨h, fun e => by rw [e] at h; simp at h⟩))
  have HKT := Lib.hid (fun (L : List UInt8) (h : k.lit.toList = L) => (show (kl.toList == L) = true ∧ kl.toList = L by rw [HKL.out]; exact ⟨by rw [h]; simp, h⟩))
  by_cases hset : k = .set
  · subst hset
    obtain ⟨q1, q2⟩ := HKT.out [115, 101, 116] (by decide +kernel)
    go_upto_region 25 with fail
    have HOX4 : Hid ((W3.setCell ⟨ob, 6, none⟩ (.int .u32 (im))).heap[ob]? = some (.cells #[.string kl, .int .i64 (d : Int), .int .i64 (a : Int), .int .i64 (bn : Int), .int .u32 im, .int .i64 (n : Int), .int .u32 (im), .int .u32 0] 134 (0, 0))) := Lib.hid (Joins.block_setCell (i := 6) HOX.out (.int .u32 (im)))
    have HRX4 := Lib.hid ((setCell_other W3 ob 6 (w.heap.size + 1) (.int .u32 (im)) (by have := HNE.out; omega)).trans HRX3.out)
    have HB4 := Lib.hid (HB3.out.setCell (p := ⟨ob, 6, none⟩) (show w.heap.size ≤ ob by have := HNE.out; omega) (.int .u32 (im)))
    clear c0 c1 c2 c3 c4 c5 o0 o1 o2 o3 o4 o5 o6 o7 of HBX3 HRX3 HM3 HB3 HOX
    generalize W3.setCell ⟨ob, 6, none⟩ (.int .u32 (im)) = W4 at *
    obtain ⟨⟨o0, o1, o2, o3, o4, o5, o6, o7⟩, of⟩ := eight_cells HOX4.out
    obtain ⟨⟨r0, r1, r2, r3, r4, r5, r6, r7⟩, rf⟩ := eight_cells HRX4.out
    go_wp2_with fail
    have h9 := put8 HRX4.out (.string kl) (.int .i64 (d : Int)) (.int .i64 (a : Int)) (.int .i64 (bn : Int)) (.int .u32 im) (.int .i64 (n : Int)) (.int .u32 (im)) (.int .u32 (0))
    have HB9 : Hid (Below w.heap.size w (((((((((W4.setCell ⟨w.heap.size + 1, 0, none⟩ (.string kl)).setCell ⟨w.heap.size + 1, 1, none⟩ (.int .i64 (d : Int))).setCell ⟨w.heap.size + 1, 2, none⟩ (.int .i64 (a : Int))).setCell ⟨w.heap.size + 1, 3, none⟩ (.int .i64 (bn : Int))).setCell ⟨w.heap.size + 1, 4, none⟩ (.int .u32 im)).setCell ⟨w.heap.size + 1, 5, none⟩ (.int .i64 (n : Int))).setCell ⟨w.heap.size + 1, 6, none⟩ (.int .u32 (im))).setCell ⟨w.heap.size + 1, 7, none⟩ (.int .u32 (0))))) := Lib.hid (put8_below HB4.out (by omega) (.string kl) (.int .i64 (d : Int)) (.int .i64 (a : Int)) (.int .i64 (bn : Int)) (.int .u32 im) (.int .i64 (n : Int)) (.int .u32 (im)) (.int .u32 (0)))
    clear r0 r1 r2 r3 r4 r5 r6 r7 rf HRX4
    generalize ((((((((W4.setCell ⟨w.heap.size + 1, 0, none⟩ (.string kl)).setCell ⟨w.heap.size + 1, 1, none⟩ (.int .i64 (d : Int))).setCell ⟨w.heap.size + 1, 2, none⟩ (.int .i64 (a : Int))).setCell ⟨w.heap.size + 1, 3, none⟩ (.int .i64 (bn : Int))).setCell ⟨w.heap.size + 1, 4, none⟩ (.int .u32 im)).setCell ⟨w.heap.size + 1, 5, none⟩ (.int .i64 (n : Int))).setCell ⟨w.heap.size + 1, 6, none⟩ (.int .u32 (im))).setCell ⟨w.heap.size + 1, 7, none⟩ (.int .u32 (0))) = W9 at *
    obtain ⟨⟨y0, y1, y2, y3, y4, y5, y6, y7⟩, _⟩ := eight_cells (w := W9) h9
    clear h9
    exact bodyPost_ret (v := .tuple #[.agg #[.string kl, .int .i64 (d : Int), .int .i64 (a : Int), .int .i64 (bn : Int), .int .u32 im, .int .i64 (n : Int), .int .u32 (im), .int .u32 (0)], .bool true]) (by simp [results, Tryz.results63, go_sem, y0, y1, y2, y3, y4, y5, y6, y7]) rfl (⟨rfl, HB9.out⟩)
  by_cases hcopy : k = .copy
  · subst hcopy
    obtain ⟨eset, fset⟩ := HKQ.out [115, 101, 116] (by decide +kernel)
    obtain ⟨q1, q2⟩ := HKT.out [99, 111, 112, 121] (by decide +kernel)
    go_upto_region 25 with fail
    have HOX4 : Hid ((W3.setCell ⟨ob, 6, none⟩ (.int .u32 (X a))).heap[ob]? = some (.cells #[.string kl, .int .i64 (d : Int), .int .i64 (a : Int), .int .i64 (bn : Int), .int .u32 im, .int .i64 (n : Int), .int .u32 (X a), .int .u32 0] 134 (0, 0))) := Lib.hid (Joins.block_setCell (i := 6) HOX.out (.int .u32 (X a)))
    have HRX4 := Lib.hid ((setCell_other W3 ob 6 (w.heap.size + 1) (.int .u32 (X a)) (by have := HNE.out; omega)).trans HRX3.out)
    have HB4 := Lib.hid (HB3.out.setCell (p := ⟨ob, 6, none⟩) (show w.heap.size ≤ ob by have := HNE.out; omega) (.int .u32 (X a)))
    clear c0 c1 c2 c3 c4 c5 o0 o1 o2 o3 o4 o5 o6 o7 of HBX3 HRX3 HM3 HB3 HOX
    generalize W3.setCell ⟨ob, 6, none⟩ (.int .u32 (X a)) = W4 at *
    obtain ⟨⟨o0, o1, o2, o3, o4, o5, o6, o7⟩, of⟩ := eight_cells HOX4.out
    obtain ⟨⟨r0, r1, r2, r3, r4, r5, r6, r7⟩, rf⟩ := eight_cells HRX4.out
    go_wp2_with fail
    have h9 := put8 HRX4.out (.string kl) (.int .i64 (d : Int)) (.int .i64 (a : Int)) (.int .i64 (bn : Int)) (.int .u32 im) (.int .i64 (n : Int)) (.int .u32 (X a)) (.int .u32 (0))
    have HB9 : Hid (Below w.heap.size w (((((((((W4.setCell ⟨w.heap.size + 1, 0, none⟩ (.string kl)).setCell ⟨w.heap.size + 1, 1, none⟩ (.int .i64 (d : Int))).setCell ⟨w.heap.size + 1, 2, none⟩ (.int .i64 (a : Int))).setCell ⟨w.heap.size + 1, 3, none⟩ (.int .i64 (bn : Int))).setCell ⟨w.heap.size + 1, 4, none⟩ (.int .u32 im)).setCell ⟨w.heap.size + 1, 5, none⟩ (.int .i64 (n : Int))).setCell ⟨w.heap.size + 1, 6, none⟩ (.int .u32 (X a))).setCell ⟨w.heap.size + 1, 7, none⟩ (.int .u32 (0))))) := Lib.hid (put8_below HB4.out (by omega) (.string kl) (.int .i64 (d : Int)) (.int .i64 (a : Int)) (.int .i64 (bn : Int)) (.int .u32 im) (.int .i64 (n : Int)) (.int .u32 (X a)) (.int .u32 (0)))
    clear r0 r1 r2 r3 r4 r5 r6 r7 rf HRX4
    generalize ((((((((W4.setCell ⟨w.heap.size + 1, 0, none⟩ (.string kl)).setCell ⟨w.heap.size + 1, 1, none⟩ (.int .i64 (d : Int))).setCell ⟨w.heap.size + 1, 2, none⟩ (.int .i64 (a : Int))).setCell ⟨w.heap.size + 1, 3, none⟩ (.int .i64 (bn : Int))).setCell ⟨w.heap.size + 1, 4, none⟩ (.int .u32 im)).setCell ⟨w.heap.size + 1, 5, none⟩ (.int .i64 (n : Int))).setCell ⟨w.heap.size + 1, 6, none⟩ (.int .u32 (X a))).setCell ⟨w.heap.size + 1, 7, none⟩ (.int .u32 (0))) = W9 at *
    obtain ⟨⟨y0, y1, y2, y3, y4, y5, y6, y7⟩, _⟩ := eight_cells (w := W9) h9
    clear h9
    exact bodyPost_ret (v := .tuple #[.agg #[.string kl, .int .i64 (d : Int), .int .i64 (a : Int), .int .i64 (bn : Int), .int .u32 im, .int .i64 (n : Int), .int .u32 (X a), .int .u32 (0)], .bool true]) (by simp [results, Tryz.results63, go_sem, y0, y1, y2, y3, y4, y5, y6, y7]) rfl (⟨rfl, HB9.out⟩)
  by_cases hoverP : k = .overP
  · subst hoverP
    obtain ⟨eset, fset⟩ := HKQ.out [115, 101, 116] (by decide +kernel)
    obtain ⟨ecopy, fcopy⟩ := HKQ.out [99, 111, 112, 121] (by decide +kernel)
    obtain ⟨q1, q2⟩ := HKT.out [111, 118, 101, 114, 43] (by decide +kernel)
    have HV := Lib.hid (fun wx => (irOver_any .overP (by simp) (X a) (X bn) (HRR.out a) (HRR.out bn) wx).mono (fun _ _ h => And.intro h.1 h.2.symm))
    obtain ⟨q, hq⟩ : ∃ q, (!fitsZ (if OpK.overP = .overP then wrap32 (X a) + wrap32 (X bn) else wrap32 (X a) - wrap32 (X bn))) = q := ⟨_, rfl⟩
    have HTR : Hid ((!trapO wt ⟨.overP, d, a, (bn : Int), im, n⟩ X) = !q) := Lib.hid (by rw [← hq]; rfl)
    rw [← HKL.out, hq] at HV
    clear hq
    go_upto_region 13 with fail
    have HKS : Hid (∀ w' : World, w'.heap[w.heap.size]? = W3.heap[w.heap.size]? → w'.heap[ob]? = W3.heap[ob]? → w'.cell? ⟨w.heap.size, 0, none⟩ = some (.string kl) ∧ w'.cell? ⟨w.heap.size, 1, none⟩ = some (.int .i64 (d : Int)) ∧ w'.cell? ⟨ob, 0, none⟩ = some (.string kl) ∧ w'.cell? ⟨ob, 1, none⟩ = some (.int .i64 (d : Int)) ∧ w'.cell? ⟨ob, 2, none⟩ = some (.int .i64 (a : Int)) ∧ w'.cell? ⟨ob, 3, none⟩ = some (.int .i64 (bn : Int)) ∧ w'.cell? ⟨ob, 4, none⟩ = some (.int .u32 im) ∧ w'.cell? ⟨ob, 5, none⟩ = some (.int .i64 (n : Int)) ∧ w'.cell? ⟨ob, 6, none⟩ = some (.int .u32 (0)) ∧ w'.cell? ⟨ob, 7, none⟩ = some (.int .u32 (0))) := Lib.hid (fun w' h1 h2 => ⟨(World.cell?_of_block (a := ⟨w.heap.size, 0, none⟩) h1).trans c0, (World.cell?_of_block (a := ⟨w.heap.size, 1, none⟩) h1).trans c1, (World.cell?_of_block (a := ⟨ob, 0, none⟩) h2).trans o0, (World.cell?_of_block (a := ⟨ob, 1, none⟩) h2).trans o1, (World.cell?_of_block (a := ⟨ob, 2, none⟩) h2).trans o2, (World.cell?_of_block (a := ⟨ob, 3, none⟩) h2).trans o3, (World.cell?_of_block (a := ⟨ob, 4, none⟩) h2).trans o4, (World.cell?_of_block (a := ⟨ob, 5, none⟩) h2).trans o5, (World.cell?_of_block (a := ⟨ob, 6, none⟩) h2).trans o6, (World.cell?_of_block (a := ⟨ob, 7, none⟩) h2).trans o7⟩)
    obtain ⟨⟨r0, r1, r2, r3, r4, r5, r6, r7⟩, rf⟩ := eight_cells (w := W3) HRX3.out
    have HK0 := HKS.out W3.drew rfl rfl
    have hk1 := put8_other (w := W3) (b := w.heap.size + 1) (k := w.heap.size) (by omega) (.string kl) (.int .i64 (d : Int)) (.int .i64 (a : Int)) (.int .i64 (bn : Int)) (.int .u32 im) (.int .i64 (n : Int)) (.int .u32 (0)) (.int .u32 (0))
    have hk2 := put8_other (w := W3) (b := w.heap.size + 1) (k := ob) (by have := HNE.out; omega) (.string kl) (.int .i64 (d : Int)) (.int .i64 (a : Int)) (.int .i64 (bn : Int)) (.int .u32 im) (.int .i64 (n : Int)) (.int .u32 (0)) (.int .u32 (0))
    obtain ⟨U, hU⟩ : ∃ U, ((((((((W3.setCell ⟨w.heap.size + 1, 0, none⟩ (.string kl)).setCell ⟨w.heap.size + 1, 1, none⟩ (.int .i64 (d : Int))).setCell ⟨w.heap.size + 1, 2, none⟩ (.int .i64 (a : Int))).setCell ⟨w.heap.size + 1, 3, none⟩ (.int .i64 (bn : Int))).setCell ⟨w.heap.size + 1, 4, none⟩ (.int .u32 im)).setCell ⟨w.heap.size + 1, 5, none⟩ (.int .i64 (n : Int))).setCell ⟨w.heap.size + 1, 6, none⟩ (.int .u32 (0))).setCell ⟨w.heap.size + 1, 7, none⟩ (.int .u32 (0))) = U := ⟨_, rfl⟩
    rw [hU] at hk1 hk2
    have HKP := HKS.out U.drew hk1 hk2
    rw [← hU] at HKP
    clear hk1 hk2 hU U
    apply wp_merge0 (R := fun w' => w' = ((((((((W3.setCell ⟨w.heap.size + 1, 0, none⟩ (.string kl)).setCell ⟨w.heap.size + 1, 1, none⟩ (.int .i64 (d : Int))).setCell ⟨w.heap.size + 1, 2, none⟩ (.int .i64 (a : Int))).setCell ⟨w.heap.size + 1, 3, none⟩ (.int .i64 (bn : Int))).setCell ⟨w.heap.size + 1, 4, none⟩ (.int .u32 im)).setCell ⟨w.heap.size + 1, 5, none⟩ (.int .i64 (n : Int))).setCell ⟨w.heap.size + 1, 6, none⟩ (.int .u32 (0))).setCell ⟨w.heap.size + 1, 7, none⟩ (.int .u32 (0))).drew)
    case h =>
      refine wp_region_noPanic ?_
      go_region_held_law (fun w' => w'.cell? ⟨w.heap.size, 0, none⟩ = some (.string kl) ∧ w'.cell? ⟨w.heap.size, 1, none⟩ = some (.int .i64 (d : Int)) ∧ w'.cell? ⟨ob, 0, none⟩ = some (.string kl) ∧ w'.cell? ⟨ob, 1, none⟩ = some (.int .i64 (d : Int)) ∧ w'.cell? ⟨ob, 2, none⟩ = some (.int .i64 (a : Int)) ∧ w'.cell? ⟨ob, 3, none⟩ = some (.int .i64 (bn : Int)) ∧ w'.cell? ⟨ob, 4, none⟩ = some (.int .u32 im) ∧ w'.cell? ⟨ob, 5, none⟩ = some (.int .i64 (n : Int)) ∧ w'.cell? ⟨ob, 6, none⟩ = some (.int .u32 (0)) ∧ w'.cell? ⟨ob, 7, none⟩ = some (.int .u32 (0))) (first | with_reducible exact HK0 | with_reducible exact HKP) ((go_at_call 57; refine (HV.out _).mono ?_; rintro e w8 ⟨rfl, rfl⟩))
      all_goals exact NoPanic.normal ⟨rfl, rfl, rfl⟩
    case hq =>
      rintro _ rfl
      clear HK0 HKP c0 c1 c2 c3 c4 c5 o0 o1 o2 o3 o4 o5 o6 o7 of
      go_wp2_with fail
      have h9 := put8 HRX3.out (.string kl) (.int .i64 (d : Int)) (.int .i64 (a : Int)) (.int .i64 (bn : Int)) (.int .u32 im) (.int .i64 (n : Int)) (.int .u32 (0)) (.int .u32 (0))
      have HB9 : Hid (Below w.heap.size w (((((((((W3.setCell ⟨w.heap.size + 1, 0, none⟩ (.string kl)).setCell ⟨w.heap.size + 1, 1, none⟩ (.int .i64 (d : Int))).setCell ⟨w.heap.size + 1, 2, none⟩ (.int .i64 (a : Int))).setCell ⟨w.heap.size + 1, 3, none⟩ (.int .i64 (bn : Int))).setCell ⟨w.heap.size + 1, 4, none⟩ (.int .u32 im)).setCell ⟨w.heap.size + 1, 5, none⟩ (.int .i64 (n : Int))).setCell ⟨w.heap.size + 1, 6, none⟩ (.int .u32 (0))).setCell ⟨w.heap.size + 1, 7, none⟩ (.int .u32 (0))).drew)) := Lib.hid ((put8_below HB3.out (by omega) (.string kl) (.int .i64 (d : Int)) (.int .i64 (a : Int)) (.int .i64 (bn : Int)) (.int .u32 im) (.int .i64 (n : Int)) (.int .u32 (0)) (.int .u32 (0))).drew)
      clear r0 r1 r2 r3 r4 r5 r6 r7 rf HRX3
      generalize ((((((((W3.setCell ⟨w.heap.size + 1, 0, none⟩ (.string kl)).setCell ⟨w.heap.size + 1, 1, none⟩ (.int .i64 (d : Int))).setCell ⟨w.heap.size + 1, 2, none⟩ (.int .i64 (a : Int))).setCell ⟨w.heap.size + 1, 3, none⟩ (.int .i64 (bn : Int))).setCell ⟨w.heap.size + 1, 4, none⟩ (.int .u32 im)).setCell ⟨w.heap.size + 1, 5, none⟩ (.int .i64 (n : Int))).setCell ⟨w.heap.size + 1, 6, none⟩ (.int .u32 (0))).setCell ⟨w.heap.size + 1, 7, none⟩ (.int .u32 (0))) = W9 at *
      obtain ⟨⟨y0, y1, y2, y3, y4, y5, y6, y7⟩, _⟩ := eight_cells (w := W9.drew) h9
      clear h9
      exact bodyPost_ret (v := .tuple #[.agg #[.string kl, .int .i64 (d : Int), .int .i64 (a : Int), .int .i64 (bn : Int), .int .u32 im, .int .i64 (n : Int), .int .u32 (0), .int .u32 (0)], .bool (!q)]) (by simp [results, Tryz.results63, go_sem, y0, y1, y2, y3, y4, y5, y6, y7]) rfl (⟨by rw [HTR.out]; rfl, HB9.out⟩)
  by_cases hoverM : k = .overM
  · subst hoverM
    obtain ⟨eset, fset⟩ := HKQ.out [115, 101, 116] (by decide +kernel)
    obtain ⟨ecopy, fcopy⟩ := HKQ.out [99, 111, 112, 121] (by decide +kernel)
    obtain ⟨eoverP, foverP⟩ := HKQ.out [111, 118, 101, 114, 43] (by decide +kernel)
    obtain ⟨q1, q2⟩ := HKT.out [111, 118, 101, 114, 45] (by decide +kernel)
    have HV := Lib.hid (fun wx => (irOver_any .overM (by simp) (X a) (X bn) (HRR.out a) (HRR.out bn) wx).mono (fun _ _ h => And.intro h.1 h.2.symm))
    obtain ⟨q, hq⟩ : ∃ q, (!fitsZ (if OpK.overM = .overP then wrap32 (X a) + wrap32 (X bn) else wrap32 (X a) - wrap32 (X bn))) = q := ⟨_, rfl⟩
    have HTR : Hid ((!trapO wt ⟨.overM, d, a, (bn : Int), im, n⟩ X) = !q) := Lib.hid (by rw [← hq]; rfl)
    rw [← HKL.out, hq] at HV
    clear hq
    go_upto_region 13 with fail
    have HKS : Hid (∀ w' : World, w'.heap[w.heap.size]? = W3.heap[w.heap.size]? → w'.heap[ob]? = W3.heap[ob]? → w'.cell? ⟨w.heap.size, 0, none⟩ = some (.string kl) ∧ w'.cell? ⟨w.heap.size, 1, none⟩ = some (.int .i64 (d : Int)) ∧ w'.cell? ⟨ob, 0, none⟩ = some (.string kl) ∧ w'.cell? ⟨ob, 1, none⟩ = some (.int .i64 (d : Int)) ∧ w'.cell? ⟨ob, 2, none⟩ = some (.int .i64 (a : Int)) ∧ w'.cell? ⟨ob, 3, none⟩ = some (.int .i64 (bn : Int)) ∧ w'.cell? ⟨ob, 4, none⟩ = some (.int .u32 im) ∧ w'.cell? ⟨ob, 5, none⟩ = some (.int .i64 (n : Int)) ∧ w'.cell? ⟨ob, 6, none⟩ = some (.int .u32 (0)) ∧ w'.cell? ⟨ob, 7, none⟩ = some (.int .u32 (0))) := Lib.hid (fun w' h1 h2 => ⟨(World.cell?_of_block (a := ⟨w.heap.size, 0, none⟩) h1).trans c0, (World.cell?_of_block (a := ⟨w.heap.size, 1, none⟩) h1).trans c1, (World.cell?_of_block (a := ⟨ob, 0, none⟩) h2).trans o0, (World.cell?_of_block (a := ⟨ob, 1, none⟩) h2).trans o1, (World.cell?_of_block (a := ⟨ob, 2, none⟩) h2).trans o2, (World.cell?_of_block (a := ⟨ob, 3, none⟩) h2).trans o3, (World.cell?_of_block (a := ⟨ob, 4, none⟩) h2).trans o4, (World.cell?_of_block (a := ⟨ob, 5, none⟩) h2).trans o5, (World.cell?_of_block (a := ⟨ob, 6, none⟩) h2).trans o6, (World.cell?_of_block (a := ⟨ob, 7, none⟩) h2).trans o7⟩)
    obtain ⟨⟨r0, r1, r2, r3, r4, r5, r6, r7⟩, rf⟩ := eight_cells (w := W3) HRX3.out
    have HK0 := HKS.out W3.drew rfl rfl
    have hk1 := put8_other (w := W3) (b := w.heap.size + 1) (k := w.heap.size) (by omega) (.string kl) (.int .i64 (d : Int)) (.int .i64 (a : Int)) (.int .i64 (bn : Int)) (.int .u32 im) (.int .i64 (n : Int)) (.int .u32 (0)) (.int .u32 (0))
    have hk2 := put8_other (w := W3) (b := w.heap.size + 1) (k := ob) (by have := HNE.out; omega) (.string kl) (.int .i64 (d : Int)) (.int .i64 (a : Int)) (.int .i64 (bn : Int)) (.int .u32 im) (.int .i64 (n : Int)) (.int .u32 (0)) (.int .u32 (0))
    obtain ⟨U, hU⟩ : ∃ U, ((((((((W3.setCell ⟨w.heap.size + 1, 0, none⟩ (.string kl)).setCell ⟨w.heap.size + 1, 1, none⟩ (.int .i64 (d : Int))).setCell ⟨w.heap.size + 1, 2, none⟩ (.int .i64 (a : Int))).setCell ⟨w.heap.size + 1, 3, none⟩ (.int .i64 (bn : Int))).setCell ⟨w.heap.size + 1, 4, none⟩ (.int .u32 im)).setCell ⟨w.heap.size + 1, 5, none⟩ (.int .i64 (n : Int))).setCell ⟨w.heap.size + 1, 6, none⟩ (.int .u32 (0))).setCell ⟨w.heap.size + 1, 7, none⟩ (.int .u32 (0))) = U := ⟨_, rfl⟩
    rw [hU] at hk1 hk2
    have HKP := HKS.out U.drew hk1 hk2
    rw [← hU] at HKP
    clear hk1 hk2 hU U
    apply wp_merge0 (R := fun w' => w' = ((((((((W3.setCell ⟨w.heap.size + 1, 0, none⟩ (.string kl)).setCell ⟨w.heap.size + 1, 1, none⟩ (.int .i64 (d : Int))).setCell ⟨w.heap.size + 1, 2, none⟩ (.int .i64 (a : Int))).setCell ⟨w.heap.size + 1, 3, none⟩ (.int .i64 (bn : Int))).setCell ⟨w.heap.size + 1, 4, none⟩ (.int .u32 im)).setCell ⟨w.heap.size + 1, 5, none⟩ (.int .i64 (n : Int))).setCell ⟨w.heap.size + 1, 6, none⟩ (.int .u32 (0))).setCell ⟨w.heap.size + 1, 7, none⟩ (.int .u32 (0))).drew)
    case h =>
      refine wp_region_noPanic ?_
      go_region_held_law (fun w' => w'.cell? ⟨w.heap.size, 0, none⟩ = some (.string kl) ∧ w'.cell? ⟨w.heap.size, 1, none⟩ = some (.int .i64 (d : Int)) ∧ w'.cell? ⟨ob, 0, none⟩ = some (.string kl) ∧ w'.cell? ⟨ob, 1, none⟩ = some (.int .i64 (d : Int)) ∧ w'.cell? ⟨ob, 2, none⟩ = some (.int .i64 (a : Int)) ∧ w'.cell? ⟨ob, 3, none⟩ = some (.int .i64 (bn : Int)) ∧ w'.cell? ⟨ob, 4, none⟩ = some (.int .u32 im) ∧ w'.cell? ⟨ob, 5, none⟩ = some (.int .i64 (n : Int)) ∧ w'.cell? ⟨ob, 6, none⟩ = some (.int .u32 (0)) ∧ w'.cell? ⟨ob, 7, none⟩ = some (.int .u32 (0))) (first | with_reducible exact HK0 | with_reducible exact HKP) ((go_at_call 57; refine (HV.out _).mono ?_; rintro e w8 ⟨rfl, rfl⟩))
      all_goals exact NoPanic.normal ⟨rfl, rfl, rfl⟩
    case hq =>
      rintro _ rfl
      clear HK0 HKP c0 c1 c2 c3 c4 c5 o0 o1 o2 o3 o4 o5 o6 o7 of
      go_wp2_with fail
      have h9 := put8 HRX3.out (.string kl) (.int .i64 (d : Int)) (.int .i64 (a : Int)) (.int .i64 (bn : Int)) (.int .u32 im) (.int .i64 (n : Int)) (.int .u32 (0)) (.int .u32 (0))
      have HB9 : Hid (Below w.heap.size w (((((((((W3.setCell ⟨w.heap.size + 1, 0, none⟩ (.string kl)).setCell ⟨w.heap.size + 1, 1, none⟩ (.int .i64 (d : Int))).setCell ⟨w.heap.size + 1, 2, none⟩ (.int .i64 (a : Int))).setCell ⟨w.heap.size + 1, 3, none⟩ (.int .i64 (bn : Int))).setCell ⟨w.heap.size + 1, 4, none⟩ (.int .u32 im)).setCell ⟨w.heap.size + 1, 5, none⟩ (.int .i64 (n : Int))).setCell ⟨w.heap.size + 1, 6, none⟩ (.int .u32 (0))).setCell ⟨w.heap.size + 1, 7, none⟩ (.int .u32 (0))).drew)) := Lib.hid ((put8_below HB3.out (by omega) (.string kl) (.int .i64 (d : Int)) (.int .i64 (a : Int)) (.int .i64 (bn : Int)) (.int .u32 im) (.int .i64 (n : Int)) (.int .u32 (0)) (.int .u32 (0))).drew)
      clear r0 r1 r2 r3 r4 r5 r6 r7 rf HRX3
      generalize ((((((((W3.setCell ⟨w.heap.size + 1, 0, none⟩ (.string kl)).setCell ⟨w.heap.size + 1, 1, none⟩ (.int .i64 (d : Int))).setCell ⟨w.heap.size + 1, 2, none⟩ (.int .i64 (a : Int))).setCell ⟨w.heap.size + 1, 3, none⟩ (.int .i64 (bn : Int))).setCell ⟨w.heap.size + 1, 4, none⟩ (.int .u32 im)).setCell ⟨w.heap.size + 1, 5, none⟩ (.int .i64 (n : Int))).setCell ⟨w.heap.size + 1, 6, none⟩ (.int .u32 (0))).setCell ⟨w.heap.size + 1, 7, none⟩ (.int .u32 (0))) = W9 at *
      obtain ⟨⟨y0, y1, y2, y3, y4, y5, y6, y7⟩, _⟩ := eight_cells (w := W9.drew) h9
      clear h9
      exact bodyPost_ret (v := .tuple #[.agg #[.string kl, .int .i64 (d : Int), .int .i64 (a : Int), .int .i64 (bn : Int), .int .u32 im, .int .i64 (n : Int), .int .u32 (0), .int .u32 (0)], .bool (!q)]) (by simp [results, Tryz.results63, go_sem, y0, y1, y2, y3, y4, y5, y6, y7]) rfl (⟨by rw [HTR.out]; rfl, HB9.out⟩)
  by_cases hst : k = .store
  · subst hst
    obtain ⟨eset, fset⟩ := HKQ.out [115, 101, 116] (by decide +kernel)
    obtain ⟨ecopy, fcopy⟩ := HKQ.out [99, 111, 112, 121] (by decide +kernel)
    obtain ⟨eoverP, foverP⟩ := HKQ.out [111, 118, 101, 114, 43] (by decide +kernel)
    obtain ⟨eoverM, foverM⟩ := HKQ.out [111, 118, 101, 114, 45] (by decide +kernel)
    obtain ⟨q1, q2⟩ := HKT.out [115, 116, 111, 114, 101] (by decide +kernel)
    have HMM := Lib.hid (HMAY.out rfl)
    obtain ⟨q, hq⟩ : ∃ q, (!trapO wt ⟨.store, d, a, (bn : Int), im, n⟩ X) = q := ⟨_, rfl⟩
    rw [hq] at HMM
    have HTR := Lib.hid hq
    clear hq
    go_upto_region 19 with fail
    have c4d : W3.drew.cell? ⟨w.heap.size, 4, none⟩ = some (.int .u32 im) := c4
    go_region
    have HOX4 : Hid ((((W3.setCell ⟨ob, 6, none⟩ (.int .u32 (X bn))).setCell ⟨ob, 7, none⟩ (.int .u32 ((X a + im) % 4294967296))).drew).heap[ob]? = some (.cells #[.string kl, .int .i64 (d : Int), .int .i64 (a : Int), .int .i64 (bn : Int), .int .u32 im, .int .i64 (n : Int), .int .u32 (X bn), .int .u32 ((X a + im) % 4294967296)] 134 (0, 0))) := Lib.hid (Joins.block_setCell (i := 7) (Joins.block_setCell (i := 6) HOX.out (.int .u32 (X bn))) (.int .u32 ((X a + im) % 4294967296)))
    have HRX5 : Hid ((((W3.setCell ⟨ob, 6, none⟩ (.int .u32 (X bn))).setCell ⟨ob, 7, none⟩ (.int .u32 ((X a + im) % 4294967296))).drew).heap[w.heap.size + 1]? = _) := Lib.hid ((setCell_other _ ob 7 (w.heap.size + 1) _ (by have := HNE.out; omega)).trans ((setCell_other W3 ob 6 (w.heap.size + 1) _ (by have := HNE.out; omega)).trans HRX3.out))
    have HBX5 : Hid ((((W3.setCell ⟨ob, 6, none⟩ (.int .u32 (X bn))).setCell ⟨ob, 7, none⟩ (.int .u32 ((X a + im) % 4294967296))).drew).heap[w.heap.size]? = _) := Lib.hid ((setCell_other _ ob 7 w.heap.size _ (by have := HNE.out; omega)).trans ((setCell_other W3 ob 6 w.heap.size _ (by have := HNE.out; omega)).trans HBX3.out))
    have HB5 := Lib.hid (((HB3.out.setCell (p := ⟨ob, 6, none⟩) (show w.heap.size ≤ ob by have := HNE.out; omega) (.int .u32 (X bn))).setCell (p := ⟨ob, 7, none⟩) (show w.heap.size ≤ ob by have := HNE.out; omega) (.int .u32 ((X a + im) % 4294967296))).drew)
    clear c0 c1 c2 c3 c4 c5 c4d o0 o1 o2 o3 o4 o5 o6 o7 of HBX3 HRX3 HM3 HB3 HOX
    generalize ((W3.setCell ⟨ob, 6, none⟩ (.int .u32 (X bn))).setCell ⟨ob, 7, none⟩ (.int .u32 ((X a + im) % 4294967296))).drew = W5 at *
    obtain ⟨z, hz⟩ : ∃ z, (X a + im) % 4294967296 = z := ⟨_, rfl⟩
    have HZ : Hid (resB ⟨.store, d, a, (bn : Int), im, n⟩ X = z) := Lib.hid hz
    rw [hz] at HOX4 HMM ⊢
    clear hz HMAY
    obtain ⟨c0, c1, c2, c3, c4, c5⟩ := six_cells HBX5.out
    obtain ⟨⟨o0, o1, o2, o3, o4, o5, o6, o7⟩, of⟩ := eight_cells HOX4.out
    have HME := Lib.hid (fun wx hb => (HMM.out wx hb).mono (fun _ _ h => And.intro h.1 h.2.symm))
    go_upto_region 20 with fail
    have HKS : Hid (∀ w' : World, w'.heap[w.heap.size]? = W5.heap[w.heap.size]? → w'.heap[ob]? = W5.heap[ob]? → w'.cell? ⟨w.heap.size, 0, none⟩ = some (.string kl) ∧ w'.cell? ⟨w.heap.size, 1, none⟩ = some (.int .i64 (d : Int)) ∧ w'.cell? ⟨ob, 0, none⟩ = some (.string kl) ∧ w'.cell? ⟨ob, 1, none⟩ = some (.int .i64 (d : Int)) ∧ w'.cell? ⟨ob, 2, none⟩ = some (.int .i64 (a : Int)) ∧ w'.cell? ⟨ob, 3, none⟩ = some (.int .i64 (bn : Int)) ∧ w'.cell? ⟨ob, 4, none⟩ = some (.int .u32 im) ∧ w'.cell? ⟨ob, 5, none⟩ = some (.int .i64 (n : Int)) ∧ w'.cell? ⟨ob, 6, none⟩ = some (.int .u32 (X bn)) ∧ w'.cell? ⟨ob, 7, none⟩ = some (.int .u32 (z))) := Lib.hid (fun w' h1 h2 => ⟨(World.cell?_of_block (a := ⟨w.heap.size, 0, none⟩) h1).trans c0, (World.cell?_of_block (a := ⟨w.heap.size, 1, none⟩) h1).trans c1, (World.cell?_of_block (a := ⟨ob, 0, none⟩) h2).trans o0, (World.cell?_of_block (a := ⟨ob, 1, none⟩) h2).trans o1, (World.cell?_of_block (a := ⟨ob, 2, none⟩) h2).trans o2, (World.cell?_of_block (a := ⟨ob, 3, none⟩) h2).trans o3, (World.cell?_of_block (a := ⟨ob, 4, none⟩) h2).trans o4, (World.cell?_of_block (a := ⟨ob, 5, none⟩) h2).trans o5, (World.cell?_of_block (a := ⟨ob, 6, none⟩) h2).trans o6, (World.cell?_of_block (a := ⟨ob, 7, none⟩) h2).trans o7⟩)
    obtain ⟨⟨r0, r1, r2, r3, r4, r5, r6, r7⟩, rf⟩ := eight_cells (w := W5) HRX5.out
    have HK0 := HKS.out W5.drew rfl rfl
    have hk1 := put8_other (w := W5) (b := w.heap.size + 1) (k := w.heap.size) (by omega) (.string kl) (.int .i64 (d : Int)) (.int .i64 (a : Int)) (.int .i64 (bn : Int)) (.int .u32 im) (.int .i64 (n : Int)) (.int .u32 (X bn)) (.int .u32 (z))
    have hk2 := put8_other (w := W5) (b := w.heap.size + 1) (k := ob) (by have := HNE.out; omega) (.string kl) (.int .i64 (d : Int)) (.int .i64 (a : Int)) (.int .i64 (bn : Int)) (.int .u32 im) (.int .i64 (n : Int)) (.int .u32 (X bn)) (.int .u32 (z))
    obtain ⟨U, hU⟩ : ∃ U, ((((((((W5.setCell ⟨w.heap.size + 1, 0, none⟩ (.string kl)).setCell ⟨w.heap.size + 1, 1, none⟩ (.int .i64 (d : Int))).setCell ⟨w.heap.size + 1, 2, none⟩ (.int .i64 (a : Int))).setCell ⟨w.heap.size + 1, 3, none⟩ (.int .i64 (bn : Int))).setCell ⟨w.heap.size + 1, 4, none⟩ (.int .u32 im)).setCell ⟨w.heap.size + 1, 5, none⟩ (.int .i64 (n : Int))).setCell ⟨w.heap.size + 1, 6, none⟩ (.int .u32 (X bn))).setCell ⟨w.heap.size + 1, 7, none⟩ (.int .u32 (z))) = U := ⟨_, rfl⟩
    rw [hU] at hk1 hk2
    have HKP := HKS.out U.drew hk1 hk2
    rw [← hU] at HKP
    clear hk1 hk2 hU U
    have HMB1 := HMM.out W5.drew HB5.out.drew
    have HMB2 := HMM.out (((((((((W5.setCell ⟨w.heap.size + 1, 0, none⟩ (.string kl)).setCell ⟨w.heap.size + 1, 1, none⟩ (.int .i64 (d : Int))).setCell ⟨w.heap.size + 1, 2, none⟩ (.int .i64 (a : Int))).setCell ⟨w.heap.size + 1, 3, none⟩ (.int .i64 (bn : Int))).setCell ⟨w.heap.size + 1, 4, none⟩ (.int .u32 im)).setCell ⟨w.heap.size + 1, 5, none⟩ (.int .i64 (n : Int))).setCell ⟨w.heap.size + 1, 6, none⟩ (.int .u32 (X bn))).setCell ⟨w.heap.size + 1, 7, none⟩ (.int .u32 (z))).drew) (put8_below HB5.out (by omega) (.string kl) (.int .i64 (d : Int)) (.int .i64 (a : Int)) (.int .i64 (bn : Int)) (.int .u32 im) (.int .i64 (n : Int)) (.int .u32 (X bn)) (.int .u32 (z))).drew
    apply wp_merge0 (R := fun w' => w' = ((((((((W5.setCell ⟨w.heap.size + 1, 0, none⟩ (.string kl)).setCell ⟨w.heap.size + 1, 1, none⟩ (.int .i64 (d : Int))).setCell ⟨w.heap.size + 1, 2, none⟩ (.int .i64 (a : Int))).setCell ⟨w.heap.size + 1, 3, none⟩ (.int .i64 (bn : Int))).setCell ⟨w.heap.size + 1, 4, none⟩ (.int .u32 im)).setCell ⟨w.heap.size + 1, 5, none⟩ (.int .i64 (n : Int))).setCell ⟨w.heap.size + 1, 6, none⟩ (.int .u32 (X bn))).setCell ⟨w.heap.size + 1, 7, none⟩ (.int .u32 (z))).drew)
    case h =>
      refine wp_region_noPanic ?_
      go_region_held_law (fun w' => w'.cell? ⟨w.heap.size, 0, none⟩ = some (.string kl) ∧ w'.cell? ⟨w.heap.size, 1, none⟩ = some (.int .i64 (d : Int)) ∧ w'.cell? ⟨ob, 0, none⟩ = some (.string kl) ∧ w'.cell? ⟨ob, 1, none⟩ = some (.int .i64 (d : Int)) ∧ w'.cell? ⟨ob, 2, none⟩ = some (.int .i64 (a : Int)) ∧ w'.cell? ⟨ob, 3, none⟩ = some (.int .i64 (bn : Int)) ∧ w'.cell? ⟨ob, 4, none⟩ = some (.int .u32 im) ∧ w'.cell? ⟨ob, 5, none⟩ = some (.int .i64 (n : Int)) ∧ w'.cell? ⟨ob, 6, none⟩ = some (.int .u32 (X bn)) ∧ w'.cell? ⟨ob, 7, none⟩ = some (.int .u32 (z))) (first | with_reducible exact HK0 | with_reducible exact HKP) ((go_at_call 59; first | (refine HMB1.mono ?_; rintro e w8 ⟨rfl, rfl⟩) | (refine HMB2.mono ?_; rintro e w8 ⟨rfl, rfl⟩)))
      all_goals exact NoPanic.normal ⟨rfl, rfl, rfl⟩
    case hq =>
      rintro _ rfl
      clear HK0 HKP c0 c1 c2 c3 c4 c5 o0 o1 o2 o3 o4 o5 o6 o7 of
      go_wp2_with fail
      have h9 := put8 HRX5.out (.string kl) (.int .i64 (d : Int)) (.int .i64 (a : Int)) (.int .i64 (bn : Int)) (.int .u32 im) (.int .i64 (n : Int)) (.int .u32 (X bn)) (.int .u32 (z))
      have HB9 : Hid (Below w.heap.size w (((((((((W5.setCell ⟨w.heap.size + 1, 0, none⟩ (.string kl)).setCell ⟨w.heap.size + 1, 1, none⟩ (.int .i64 (d : Int))).setCell ⟨w.heap.size + 1, 2, none⟩ (.int .i64 (a : Int))).setCell ⟨w.heap.size + 1, 3, none⟩ (.int .i64 (bn : Int))).setCell ⟨w.heap.size + 1, 4, none⟩ (.int .u32 im)).setCell ⟨w.heap.size + 1, 5, none⟩ (.int .i64 (n : Int))).setCell ⟨w.heap.size + 1, 6, none⟩ (.int .u32 (X bn))).setCell ⟨w.heap.size + 1, 7, none⟩ (.int .u32 (z))).drew)) := Lib.hid ((put8_below HB5.out (by omega) (.string kl) (.int .i64 (d : Int)) (.int .i64 (a : Int)) (.int .i64 (bn : Int)) (.int .u32 im) (.int .i64 (n : Int)) (.int .u32 (X bn)) (.int .u32 (z))).drew)
      clear r0 r1 r2 r3 r4 r5 r6 r7 rf HRX5
      generalize ((((((((W5.setCell ⟨w.heap.size + 1, 0, none⟩ (.string kl)).setCell ⟨w.heap.size + 1, 1, none⟩ (.int .i64 (d : Int))).setCell ⟨w.heap.size + 1, 2, none⟩ (.int .i64 (a : Int))).setCell ⟨w.heap.size + 1, 3, none⟩ (.int .i64 (bn : Int))).setCell ⟨w.heap.size + 1, 4, none⟩ (.int .u32 im)).setCell ⟨w.heap.size + 1, 5, none⟩ (.int .i64 (n : Int))).setCell ⟨w.heap.size + 1, 6, none⟩ (.int .u32 (X bn))).setCell ⟨w.heap.size + 1, 7, none⟩ (.int .u32 (z))) = W9 at *
      obtain ⟨⟨y0, y1, y2, y3, y4, y5, y6, y7⟩, _⟩ := eight_cells (w := W9.drew) h9
      clear h9
      exact bodyPost_ret (v := .tuple #[.agg #[.string kl, .int .i64 (d : Int), .int .i64 (a : Int), .int .i64 (bn : Int), .int .u32 im, .int .i64 (n : Int), .int .u32 (X bn), .int .u32 (z)], .bool q]) (by simp [results, Tryz.results63, go_sem, y0, y1, y2, y3, y4, y5, y6, y7]) rfl (⟨by rw [HTR.out, HZ.out]; rfl, HB9.out⟩)
  by_cases hcond : k = .cond
  · subst hcond
    obtain ⟨eset, fset⟩ := HKQ.out [115, 101, 116] (by decide +kernel)
    obtain ⟨ecopy, fcopy⟩ := HKQ.out [99, 111, 112, 121] (by decide +kernel)
    obtain ⟨eoverP, foverP⟩ := HKQ.out [111, 118, 101, 114, 43] (by decide +kernel)
    obtain ⟨eoverM, foverM⟩ := HKQ.out [111, 118, 101, 114, 45] (by decide +kernel)
    obtain ⟨estore, fstore⟩ := HKQ.out [115, 116, 111, 114, 101] (by decide +kernel)
    obtain ⟨q1, q2⟩ := HKT.out [105, 102] (by decide +kernel)
    go_upto_region 25 with fail
    have HOX4 : Hid ((W3.setCell ⟨ob, 6, none⟩ (.int .u32 (X a))).heap[ob]? = some (.cells #[.string kl, .int .i64 (d : Int), .int .i64 (a : Int), .int .i64 (bn : Int), .int .u32 im, .int .i64 (n : Int), .int .u32 (X a), .int .u32 0] 134 (0, 0))) := Lib.hid (Joins.block_setCell (i := 6) HOX.out (.int .u32 (X a)))
    have HRX4 := Lib.hid ((setCell_other W3 ob 6 (w.heap.size + 1) (.int .u32 (X a)) (by have := HNE.out; omega)).trans HRX3.out)
    have HB4 := Lib.hid (HB3.out.setCell (p := ⟨ob, 6, none⟩) (show w.heap.size ≤ ob by have := HNE.out; omega) (.int .u32 (X a)))
    clear c0 c1 c2 c3 c4 c5 o0 o1 o2 o3 o4 o5 o6 o7 of HBX3 HRX3 HM3 HB3 HOX
    generalize W3.setCell ⟨ob, 6, none⟩ (.int .u32 (X a)) = W4 at *
    obtain ⟨⟨o0, o1, o2, o3, o4, o5, o6, o7⟩, of⟩ := eight_cells HOX4.out
    obtain ⟨⟨r0, r1, r2, r3, r4, r5, r6, r7⟩, rf⟩ := eight_cells HRX4.out
    go_wp2_with fail
    have h9 := put8 HRX4.out (.string kl) (.int .i64 (d : Int)) (.int .i64 (a : Int)) (.int .i64 (bn : Int)) (.int .u32 im) (.int .i64 (n : Int)) (.int .u32 (X a)) (.int .u32 (0))
    have HB9 : Hid (Below w.heap.size w (((((((((W4.setCell ⟨w.heap.size + 1, 0, none⟩ (.string kl)).setCell ⟨w.heap.size + 1, 1, none⟩ (.int .i64 (d : Int))).setCell ⟨w.heap.size + 1, 2, none⟩ (.int .i64 (a : Int))).setCell ⟨w.heap.size + 1, 3, none⟩ (.int .i64 (bn : Int))).setCell ⟨w.heap.size + 1, 4, none⟩ (.int .u32 im)).setCell ⟨w.heap.size + 1, 5, none⟩ (.int .i64 (n : Int))).setCell ⟨w.heap.size + 1, 6, none⟩ (.int .u32 (X a))).setCell ⟨w.heap.size + 1, 7, none⟩ (.int .u32 (0))))) := Lib.hid (put8_below HB4.out (by omega) (.string kl) (.int .i64 (d : Int)) (.int .i64 (a : Int)) (.int .i64 (bn : Int)) (.int .u32 im) (.int .i64 (n : Int)) (.int .u32 (X a)) (.int .u32 (0)))
    clear r0 r1 r2 r3 r4 r5 r6 r7 rf HRX4
    generalize ((((((((W4.setCell ⟨w.heap.size + 1, 0, none⟩ (.string kl)).setCell ⟨w.heap.size + 1, 1, none⟩ (.int .i64 (d : Int))).setCell ⟨w.heap.size + 1, 2, none⟩ (.int .i64 (a : Int))).setCell ⟨w.heap.size + 1, 3, none⟩ (.int .i64 (bn : Int))).setCell ⟨w.heap.size + 1, 4, none⟩ (.int .u32 im)).setCell ⟨w.heap.size + 1, 5, none⟩ (.int .i64 (n : Int))).setCell ⟨w.heap.size + 1, 6, none⟩ (.int .u32 (X a))).setCell ⟨w.heap.size + 1, 7, none⟩ (.int .u32 (0))) = W9 at *
    obtain ⟨⟨y0, y1, y2, y3, y4, y5, y6, y7⟩, _⟩ := eight_cells (w := W9) h9
    clear h9
    exact bodyPost_ret (v := .tuple #[.agg #[.string kl, .int .i64 (d : Int), .int .i64 (a : Int), .int .i64 (bn : Int), .int .u32 im, .int .i64 (n : Int), .int .u32 (X a), .int .u32 (0)], .bool true]) (by simp [results, Tryz.results63, go_sem, y0, y1, y2, y3, y4, y5, y6, y7]) rfl (⟨rfl, HB9.out⟩)
  by_cases hout : k = .out
  · subst hout
    obtain ⟨eset, fset⟩ := HKQ.out [115, 101, 116] (by decide +kernel)
    obtain ⟨ecopy, fcopy⟩ := HKQ.out [99, 111, 112, 121] (by decide +kernel)
    obtain ⟨eoverP, foverP⟩ := HKQ.out [111, 118, 101, 114, 43] (by decide +kernel)
    obtain ⟨eoverM, foverM⟩ := HKQ.out [111, 118, 101, 114, 45] (by decide +kernel)
    obtain ⟨estore, fstore⟩ := HKQ.out [115, 116, 111, 114, 101] (by decide +kernel)
    obtain ⟨econd, fcond⟩ := HKQ.out [105, 102] (by decide +kernel)
    obtain ⟨q1, q2⟩ := HKT.out [111, 117, 116] (by decide +kernel)
    go_upto_region 25 with fail
    have HOX4 : Hid ((W3.setCell ⟨ob, 6, none⟩ (.int .u32 (X a))).heap[ob]? = some (.cells #[.string kl, .int .i64 (d : Int), .int .i64 (a : Int), .int .i64 (bn : Int), .int .u32 im, .int .i64 (n : Int), .int .u32 (X a), .int .u32 0] 134 (0, 0))) := Lib.hid (Joins.block_setCell (i := 6) HOX.out (.int .u32 (X a)))
    have HRX4 := Lib.hid ((setCell_other W3 ob 6 (w.heap.size + 1) (.int .u32 (X a)) (by have := HNE.out; omega)).trans HRX3.out)
    have HB4 := Lib.hid (HB3.out.setCell (p := ⟨ob, 6, none⟩) (show w.heap.size ≤ ob by have := HNE.out; omega) (.int .u32 (X a)))
    clear c0 c1 c2 c3 c4 c5 o0 o1 o2 o3 o4 o5 o6 o7 of HBX3 HRX3 HM3 HB3 HOX
    generalize W3.setCell ⟨ob, 6, none⟩ (.int .u32 (X a)) = W4 at *
    obtain ⟨⟨o0, o1, o2, o3, o4, o5, o6, o7⟩, of⟩ := eight_cells HOX4.out
    obtain ⟨⟨r0, r1, r2, r3, r4, r5, r6, r7⟩, rf⟩ := eight_cells HRX4.out
    go_wp2_with fail
    have h9 := put8 HRX4.out (.string kl) (.int .i64 (d : Int)) (.int .i64 (a : Int)) (.int .i64 (bn : Int)) (.int .u32 im) (.int .i64 (n : Int)) (.int .u32 (X a)) (.int .u32 (0))
    have HB9 : Hid (Below w.heap.size w (((((((((W4.setCell ⟨w.heap.size + 1, 0, none⟩ (.string kl)).setCell ⟨w.heap.size + 1, 1, none⟩ (.int .i64 (d : Int))).setCell ⟨w.heap.size + 1, 2, none⟩ (.int .i64 (a : Int))).setCell ⟨w.heap.size + 1, 3, none⟩ (.int .i64 (bn : Int))).setCell ⟨w.heap.size + 1, 4, none⟩ (.int .u32 im)).setCell ⟨w.heap.size + 1, 5, none⟩ (.int .i64 (n : Int))).setCell ⟨w.heap.size + 1, 6, none⟩ (.int .u32 (X a))).setCell ⟨w.heap.size + 1, 7, none⟩ (.int .u32 (0))))) := Lib.hid (put8_below HB4.out (by omega) (.string kl) (.int .i64 (d : Int)) (.int .i64 (a : Int)) (.int .i64 (bn : Int)) (.int .u32 im) (.int .i64 (n : Int)) (.int .u32 (X a)) (.int .u32 (0)))
    clear r0 r1 r2 r3 r4 r5 r6 r7 rf HRX4
    generalize ((((((((W4.setCell ⟨w.heap.size + 1, 0, none⟩ (.string kl)).setCell ⟨w.heap.size + 1, 1, none⟩ (.int .i64 (d : Int))).setCell ⟨w.heap.size + 1, 2, none⟩ (.int .i64 (a : Int))).setCell ⟨w.heap.size + 1, 3, none⟩ (.int .i64 (bn : Int))).setCell ⟨w.heap.size + 1, 4, none⟩ (.int .u32 im)).setCell ⟨w.heap.size + 1, 5, none⟩ (.int .i64 (n : Int))).setCell ⟨w.heap.size + 1, 6, none⟩ (.int .u32 (X a))).setCell ⟨w.heap.size + 1, 7, none⟩ (.int .u32 (0))) = W9 at *
    obtain ⟨⟨y0, y1, y2, y3, y4, y5, y6, y7⟩, _⟩ := eight_cells (w := W9) h9
    clear h9
    exact bodyPost_ret (v := .tuple #[.agg #[.string kl, .int .i64 (d : Int), .int .i64 (a : Int), .int .i64 (bn : Int), .int .u32 im, .int .i64 (n : Int), .int .u32 (X a), .int .u32 (0)], .bool true]) (by simp [results, Tryz.results63, go_sem, y0, y1, y2, y3, y4, y5, y6, y7]) rfl (⟨rfl, HB9.out⟩)
  by_cases houtr : k = .outr
  · subst houtr
    obtain ⟨eset, fset⟩ := HKQ.out [115, 101, 116] (by decide +kernel)
    obtain ⟨ecopy, fcopy⟩ := HKQ.out [99, 111, 112, 121] (by decide +kernel)
    obtain ⟨eoverP, foverP⟩ := HKQ.out [111, 118, 101, 114, 43] (by decide +kernel)
    obtain ⟨eoverM, foverM⟩ := HKQ.out [111, 118, 101, 114, 45] (by decide +kernel)
    obtain ⟨estore, fstore⟩ := HKQ.out [115, 116, 111, 114, 101] (by decide +kernel)
    obtain ⟨econd, fcond⟩ := HKQ.out [105, 102] (by decide +kernel)
    obtain ⟨eout, fout⟩ := HKQ.out [111, 117, 116] (by decide +kernel)
    obtain ⟨q1, q2⟩ := HKT.out [111, 117, 116, 114] (by decide +kernel)
    go_upto_region 25 with fail
    have HOX4 : Hid ((W3.setCell ⟨ob, 6, none⟩ (.int .u32 (X a))).heap[ob]? = some (.cells #[.string kl, .int .i64 (d : Int), .int .i64 (a : Int), .int .i64 (bn : Int), .int .u32 im, .int .i64 (n : Int), .int .u32 (X a), .int .u32 0] 134 (0, 0))) := Lib.hid (Joins.block_setCell (i := 6) HOX.out (.int .u32 (X a)))
    have HRX4 := Lib.hid ((setCell_other W3 ob 6 (w.heap.size + 1) (.int .u32 (X a)) (by have := HNE.out; omega)).trans HRX3.out)
    have HB4 := Lib.hid (HB3.out.setCell (p := ⟨ob, 6, none⟩) (show w.heap.size ≤ ob by have := HNE.out; omega) (.int .u32 (X a)))
    clear c0 c1 c2 c3 c4 c5 o0 o1 o2 o3 o4 o5 o6 o7 of HBX3 HRX3 HM3 HB3 HOX
    generalize W3.setCell ⟨ob, 6, none⟩ (.int .u32 (X a)) = W4 at *
    obtain ⟨⟨o0, o1, o2, o3, o4, o5, o6, o7⟩, of⟩ := eight_cells HOX4.out
    obtain ⟨⟨r0, r1, r2, r3, r4, r5, r6, r7⟩, rf⟩ := eight_cells HRX4.out
    go_wp2_with fail
    have h9 := put8 HRX4.out (.string kl) (.int .i64 (d : Int)) (.int .i64 (a : Int)) (.int .i64 (bn : Int)) (.int .u32 im) (.int .i64 (n : Int)) (.int .u32 (X a)) (.int .u32 (0))
    have HB9 : Hid (Below w.heap.size w (((((((((W4.setCell ⟨w.heap.size + 1, 0, none⟩ (.string kl)).setCell ⟨w.heap.size + 1, 1, none⟩ (.int .i64 (d : Int))).setCell ⟨w.heap.size + 1, 2, none⟩ (.int .i64 (a : Int))).setCell ⟨w.heap.size + 1, 3, none⟩ (.int .i64 (bn : Int))).setCell ⟨w.heap.size + 1, 4, none⟩ (.int .u32 im)).setCell ⟨w.heap.size + 1, 5, none⟩ (.int .i64 (n : Int))).setCell ⟨w.heap.size + 1, 6, none⟩ (.int .u32 (X a))).setCell ⟨w.heap.size + 1, 7, none⟩ (.int .u32 (0))))) := Lib.hid (put8_below HB4.out (by omega) (.string kl) (.int .i64 (d : Int)) (.int .i64 (a : Int)) (.int .i64 (bn : Int)) (.int .u32 im) (.int .i64 (n : Int)) (.int .u32 (X a)) (.int .u32 (0)))
    clear r0 r1 r2 r3 r4 r5 r6 r7 rf HRX4
    generalize ((((((((W4.setCell ⟨w.heap.size + 1, 0, none⟩ (.string kl)).setCell ⟨w.heap.size + 1, 1, none⟩ (.int .i64 (d : Int))).setCell ⟨w.heap.size + 1, 2, none⟩ (.int .i64 (a : Int))).setCell ⟨w.heap.size + 1, 3, none⟩ (.int .i64 (bn : Int))).setCell ⟨w.heap.size + 1, 4, none⟩ (.int .u32 im)).setCell ⟨w.heap.size + 1, 5, none⟩ (.int .i64 (n : Int))).setCell ⟨w.heap.size + 1, 6, none⟩ (.int .u32 (X a))).setCell ⟨w.heap.size + 1, 7, none⟩ (.int .u32 (0))) = W9 at *
    obtain ⟨⟨y0, y1, y2, y3, y4, y5, y6, y7⟩, _⟩ := eight_cells (w := W9) h9
    clear h9
    exact bodyPost_ret (v := .tuple #[.agg #[.string kl, .int .i64 (d : Int), .int .i64 (a : Int), .int .i64 (bn : Int), .int .u32 im, .int .i64 (n : Int), .int .u32 (X a), .int .u32 (0)], .bool true]) (by simp [results, Tryz.results63, go_sem, y0, y1, y2, y3, y4, y5, y6, y7]) rfl (⟨rfl, HB9.out⟩)
  have hdset : (k.lit.toList == [115, 101, 116]) = false := by cases k <;> first | exact absurd rfl hset | decide +kernel
  have hdcopy : (k.lit.toList == [99, 111, 112, 121]) = false := by cases k <;> first | exact absurd rfl hcopy | decide +kernel
  have hdoverP : (k.lit.toList == [111, 118, 101, 114, 43]) = false := by cases k <;> first | exact absurd rfl hoverP | decide +kernel
  have hdoverM : (k.lit.toList == [111, 118, 101, 114, 45]) = false := by cases k <;> first | exact absurd rfl hoverM | decide +kernel
  have hdstore : (k.lit.toList == [115, 116, 111, 114, 101]) = false := by cases k <;> first | exact absurd rfl hst | decide +kernel
  have hdcond : (k.lit.toList == [105, 102]) = false := by cases k <;> first | exact absurd rfl hcond | decide +kernel
  have hdout : (k.lit.toList == [111, 117, 116]) = false := by cases k <;> first | exact absurd rfl hout | decide +kernel
  have hdoutr : (k.lit.toList == [111, 117, 116, 114]) = false := by cases k <;> first | exact absurd rfl houtr | decide +kernel
  obtain ⟨eset, fset⟩ := HKQ.out [115, 101, 116] hdset
  obtain ⟨ecopy, fcopy⟩ := HKQ.out [99, 111, 112, 121] hdcopy
  obtain ⟨eoverP, foverP⟩ := HKQ.out [111, 118, 101, 114, 43] hdoverP
  obtain ⟨eoverM, foverM⟩ := HKQ.out [111, 118, 101, 114, 45] hdoverM
  obtain ⟨estore, fstore⟩ := HKQ.out [115, 116, 111, 114, 101] hdstore
  obtain ⟨econd, fcond⟩ := HKQ.out [105, 102] hdcond
  obtain ⟨eout, fout⟩ := HKQ.out [111, 117, 116] hdout
  obtain ⟨eoutr, foutr⟩ := HKQ.out [111, 117, 116, 114] hdoutr
  have hsd : isSumK k = true ∨ divO k = true := by
    cases k <;> first | (left; rfl) | (right; rfl) | exact absurd rfl hset | exact absurd rfl hcopy | exact absurd rfl hoverP | exact absurd rfl hoverM | exact absurd rfl hk | exact absurd rfl hst | exact absurd rfl hcond | exact absurd rfl hout | exact absurd rfl houtr
  have HRES : Hid (resV ⟨k, d, a, (bn : Int), im, n⟩ X us = valK k (X a) (X bn) (X d) ∧ resB ⟨k, d, a, (bn : Int), im, n⟩ X = 0 ∧ trapO wt ⟨k, d, a, (bn : Int), im, n⟩ X = false) := Lib.hid (by
    have h1 := valO_sum ⟨k, d, a, (bn : Int), im, n⟩ X us hsd
    simp only [Int.toNat_natCast] at h1
    rw [← h1]
    revert hset hcopy hoverP hoverM hk hst hcond hout houtr
    cases k <;> intros <;> first | exact ⟨rfl, rfl, rfl⟩ | contradiction)
  have HV := Lib.hid (fun wx => irValue_any k hsd (X a) (X bn) (X d) (HRR.out a) (HRR.out bn) wx)
  rw [← HKL.out] at HV
  generalize valK k (X a) (X bn) (X d) = v at *
  clear hsd HKL HKQ HKT hset hcopy hoverP hoverM hk hst hcond hout houtr hdset hdcopy hdoverP hdoverM hdstore hdcond hdout hdoutr HMAY
  have hz := HM3.out.reg HN.out.1
  go_upto_region 6 with fail
  have HKS : Hid (∀ w' : World, w'.heap[w.heap.size]? = W3.heap[w.heap.size]? → w'.heap[mb]? = W3.heap[mb]? → w'.cell? ⟨w.heap.size, 0, none⟩ = some (.string kl) ∧ w'.cell? ⟨w.heap.size, 1, none⟩ = some (.int .i64 (d : Int)) ∧ w'.cell? ⟨mb, d, none⟩ = some (.int .u32 (X d))) := Lib.hid (fun w' h1 h2 => ⟨(World.cell?_of_block (a := ⟨w.heap.size, 0, none⟩) h1).trans c0, (World.cell?_of_block (a := ⟨w.heap.size, 1, none⟩) h1).trans c1, (World.cell?_of_block (a := ⟨mb, d, none⟩) h2).trans hz⟩)
  have HLL : Hid (w.heap.size < W3.heap.size ∧ mb < W3.heap.size ∧ ob < W3.heap.size ∧ w.heap.size + 1 < W3.heap.size) := Lib.hid ⟨(Array.getElem?_eq_some_iff.1 HBX3.out).1, HM3.out.lt, (Array.getElem?_eq_some_iff.1 HOX.out).1, (Array.getElem?_eq_some_iff.1 HRX3.out).1⟩
  have HK0 := HKS.out W3.drew rfl rfl
  clear o0 o1 o2 o3 o4 o5 o6 o7 of eset fset ecopy fcopy eoverP foverP eoverM foverM estore fstore econd fcond eout fout eoutr foutr n1 n2 c2 c3 c4 c5
  refine wp_region_noPanic ?_
  go_region_held_law (fun w' => w'.cell? ⟨w.heap.size, 0, none⟩ = some (.string kl) ∧ w'.cell? ⟨w.heap.size, 1, none⟩ = some (.int .i64 (d : Int)) ∧ w'.cell? ⟨mb, d, none⟩ = some (.int .u32 (X d))) (first | with_reducible exact HK0 | with_reducible exact hk4 | with_reducible exact hk5)
    (((with_reducible refine (HV.out _).mono ?_); rintro e w4 ⟨rfl, hb4'⟩; have hb4 := (Below.refl W3.heap.size W3).drew.trans hb4'; have hk4 := HKS.out w4 (hb4.block _ HLL.out.1) (hb4.block _ HLL.out.2.1); have hk5 := HKS.out (w4.setCell ⟨ob, 6, none⟩ (.int .u32 v)) ((setCell_other w4 ob 6 _ _ (by have := HNE.out; omega)).trans (hb4.block _ HLL.out.1)) ((setCell_other w4 ob 6 _ _ (by have := HNE.out; omega)).trans (hb4.block _ HLL.out.2.1)); obtain ⟨⟨p0, p1, p2, p3, p4, p5, p6, p7⟩, pf⟩ := eight_cells ((hb4.block _ HLL.out.2.2.1).trans HOX.out)))
  refine NoPanic.normal ?_
  have HOX5 := Lib.hid ((hb4.block _ HLL.out.2.2.1).trans HOX.out)
  have HRX5 := Lib.hid ((hb4.block _ HLL.out.2.2.2).trans HRX3.out)
  have HB5 := Lib.hid (HB3.out.trans (hb4.mono HB3.out.size))
  clear hb4 hb4' hk4 hk5 HK0 HKS hz p0 p1 p2 p3 p4 p5 p6 p7 pf
  have HOX4 : Hid ((w4.setCell ⟨ob, 6, none⟩ (.int .u32 (v))).heap[ob]? = some (.cells #[.string kl, .int .i64 (d : Int), .int .i64 (a : Int), .int .i64 (bn : Int), .int .u32 im, .int .i64 (n : Int), .int .u32 (v), .int .u32 0] 134 (0, 0))) := Lib.hid (Joins.block_setCell (i := 6) HOX5.out (.int .u32 (v)))
  have HRX4 := Lib.hid ((setCell_other w4 ob 6 (w.heap.size + 1) (.int .u32 (v)) (by have := HNE.out; omega)).trans HRX5.out)
  have HB4 := Lib.hid (HB5.out.setCell (p := ⟨ob, 6, none⟩) (show w.heap.size ≤ ob by have := HNE.out; omega) (.int .u32 (v)))
  clear c0 c1 HBX3 HRX3 HM3 HB3 HOX HOX5 HRX5 HB5
  generalize w4.setCell ⟨ob, 6, none⟩ (.int .u32 (v)) = W4 at *
  obtain ⟨⟨o0, o1, o2, o3, o4, o5, o6, o7⟩, of⟩ := eight_cells HOX4.out
  obtain ⟨⟨r0, r1, r2, r3, r4, r5, r6, r7⟩, rf⟩ := eight_cells HRX4.out
  go_wp2_with fail
  have h9 := put8 HRX4.out (.string kl) (.int .i64 (d : Int)) (.int .i64 (a : Int)) (.int .i64 (bn : Int)) (.int .u32 im) (.int .i64 (n : Int)) (.int .u32 (v)) (.int .u32 (0))
  have HB9 : Hid (Below w.heap.size w (((((((((W4.setCell ⟨w.heap.size + 1, 0, none⟩ (.string kl)).setCell ⟨w.heap.size + 1, 1, none⟩ (.int .i64 (d : Int))).setCell ⟨w.heap.size + 1, 2, none⟩ (.int .i64 (a : Int))).setCell ⟨w.heap.size + 1, 3, none⟩ (.int .i64 (bn : Int))).setCell ⟨w.heap.size + 1, 4, none⟩ (.int .u32 im)).setCell ⟨w.heap.size + 1, 5, none⟩ (.int .i64 (n : Int))).setCell ⟨w.heap.size + 1, 6, none⟩ (.int .u32 (v))).setCell ⟨w.heap.size + 1, 7, none⟩ (.int .u32 (0))))) := Lib.hid (put8_below HB4.out (by omega) (.string kl) (.int .i64 (d : Int)) (.int .i64 (a : Int)) (.int .i64 (bn : Int)) (.int .u32 im) (.int .i64 (n : Int)) (.int .u32 (v)) (.int .u32 (0)))
  clear r0 r1 r2 r3 r4 r5 r6 r7 rf HRX4
  generalize ((((((((W4.setCell ⟨w.heap.size + 1, 0, none⟩ (.string kl)).setCell ⟨w.heap.size + 1, 1, none⟩ (.int .i64 (d : Int))).setCell ⟨w.heap.size + 1, 2, none⟩ (.int .i64 (a : Int))).setCell ⟨w.heap.size + 1, 3, none⟩ (.int .i64 (bn : Int))).setCell ⟨w.heap.size + 1, 4, none⟩ (.int .u32 im)).setCell ⟨w.heap.size + 1, 5, none⟩ (.int .i64 (n : Int))).setCell ⟨w.heap.size + 1, 6, none⟩ (.int .u32 (v))).setCell ⟨w.heap.size + 1, 7, none⟩ (.int .u32 (0))) = W9 at *
  obtain ⟨⟨y0, y1, y2, y3, y4, y5, y6, y7⟩, _⟩ := eight_cells (w := W9) h9
  clear h9
  exact bodyPost_ret (v := .tuple #[.agg #[.string kl, .int .i64 (d : Int), .int .i64 (a : Int), .int .i64 (bn : Int), .int .u32 im, .int .i64 (n : Int), .int .u32 (v), .int .u32 (0)], .bool true]) (by simp [results, Tryz.results63, go_sem, y0, y1, y2, y3, y4, y5, y6, y7]) rfl (⟨by rw [HRES.out.1, HRES.out.2.1, HRES.out.2.2]; rfl, HB9.out⟩)
end Go.Proofs.YtlnefmgiiogcmaaGreatDoor
namespace Go.Proofs.YtlnefmgiiogcmaaGreatDoor
open Go.RowKit
def HitAny (ht : Nat → Bool) (h : Bool) : Prop := h = true ↔ ∃ p, p < 64 ∧ ht p = true
theorem HitAny.hit {ht wt : Nat → Bool} {h : Bool} (H : HitAny ht h) {p : Nat} (hp : p < 64) : HitAny (hitN wt ht p) (h || wt p) := by
  unfold HitAny hitN at *
  rw [Bool.or_eq_true, H]
  constructor
  · rintro (⟨q, hq, e⟩ | e)
    · exact ⟨q, hq, by rw [e]; rfl⟩
    · exact ⟨p, hp, by rw [e]; simp⟩
  · rintro ⟨q, hq, e⟩
    rw [Bool.or_eq_true, Bool.and_eq_true] at e
    rcases e with e | ⟨e1, e2⟩
    · exact .inl ⟨q, hq, e⟩
    · exact .inr e2
structure StG (s : StF) (F : BusF) (n : Nat) : Prop where
  g : GSOK (gsOf s)
  w : WsOK F.ws
  pc : Reg32 s.pc
  next : Reg32 s.next
  c0 : 0 ≤ s.count
  c1 : s.count + n ≤ 4611686018427387903
  tr : F.tr = []
  out : F.out.length ≤ 1000000
theorem StG.ok {s : StF} {F : BusF} {n : Nat} (h : StG s F n) : StOK s F := ⟨h.g.r, h.pc, h.next, ⟨h.c0, by have := h.c1; omega⟩, by rw [h.tr]; decide, h.out⟩
end Go.Proofs.YtlnefmgiiogcmaaGreatDoor
namespace Go.Proofs.YtlnefmgiiogcmaaGreatDoor
open Go.RowKit
section
variable {w : World} {B sb b r bw ba bh : Nat} {tv : Value} {wt : Nat → Bool} {s : StF} {F : BusF}
theorem InsR.f {i : InsN} (hi : InsR i) : InsF i.s.toNat i.t.toNat i.d.toNat i.imm := ⟨hi.ok.s, hi.ok.t, hi.ok.d, hi.m0, hi.m1⟩
end
theorem StB.setCount {w : World} {sb : Nat} {s : StF} (h : StB w sb s) (v : Int) : StB (w.setCell ⟨sb, 42, none⟩ (.int .i64 v)) sb { s with count := v } :=
  (Row.set h 42 (.int .i64 v)).eqv (fun j hj => by
    by_cases e : j = 42
    · subst e; rfl
    · rw [if_neg e]
      by_cases e2 : j < 32
      · unfold stG
        rw [if_pos e2, if_pos e2]
      · have hj2 : j = 32 ∨ j = 33 ∨ j = 34 ∨ j = 35 ∨ j = 36 ∨ j = 37 ∨ j = 38 ∨ j = 39 ∨ j = 40 ∨ j = 41 := by omega
        rcases hj2 with rfl | rfl | rfl | rfl | rfl | rfl | rfl | rfl | rfl | rfl <;> rfl)
theorem StB.count {w : World} {sb : Nat} {s : StF} (h : StB w sb s) : w.cell? ⟨sb, 42, none⟩ = some (.int .i64 s.count) := h.cell (show 42 < 43 by decide)
theorem HitAny.ex (ht : Nat → Bool) : ∃ h, HitAny ht h := by
  by_cases e : ∃ p, p < 64 ∧ ht p = true
  · exact ⟨true, fun _ => e, fun _ => rfl⟩
  · exact ⟨false, fun h => (by cases h), fun h => absurd h e⟩
end Go.Proofs.YtlnefmgiiogcmaaGreatDoor
namespace Go.Proofs.YtlnefmgiiogcmaaGreatDoor
open Go.RowKit
def leftS (s : StF) (X : Regs) (pc : Int) (many : Nat) : StF := { s with r := fun k => if k < 32 then X k else s.r k, hi := X 32, lo := X 33, pc := pc, next := (pc + 4) % 4294967296, count := s.count + (many : Int) }
section
variable {s : StF} {X : Regs}
theorem MpB.drew {w : World} {b : Nat} {X : Regs} {rv wv : Value} (h : MpB w b X rv wv) : MpB w.drew b X rv wv := h.of_block rfl
set_option maxHeartbeats 4000000 in
set_option maxRecDepth 100000 in
theorem leaveP_any {w : World} {sb mb many : Nat} {pc : Int} {rv : Value} (hs : StB w sb s) (hm : MpB w mb X rv (.slice none 0 0)) (hne : sb ≠ mb) (c0 : 0 ≤ s.count) (c1 : s.count ≤ 4611686018427387904) (hmany : many ≤ 24) :
    Calls Tryz.prog 32 #[.pointer (some ⟨mb, 0, none⟩), .pointer (some ⟨sb, 0, none⟩), .int .u32 pc, .int .i64 (many : Int)] w fun e w' => e = .returned (.tuple #[]) ∧ StB w' sb (leftS s X pc many) ∧ Kept (fun k => k = sb) w w' := by
  have HS1 := Lib.hid (StB.drew hs)
  have HM1 := Lib.hid (MpB.drew hm)
  have HK1 := Lib.hid (Kept.of_below (S := fun k => k = sb) (Below.refl w.heap.size w).drew)
  have HNE : Hid (mb ≠ sb) := Lib.hid (fun e => hne e.symm)
  have hcw : IntKind.i64.wrap (s.count + (many : Int)) = s.count + (many : Int) := IntWalk.i64_in _ ⟨by omega, by omega⟩
  have hcw2 : wrap64 (s.count + (many : Int)) = s.count + (many : Int) := IntWalk.wrap64_in _ ⟨by omega, by omega⟩
  clear hs hm hne c0 c1 hmany
  go_enter Tryz.func32, Tryz.ntmps32
  go_wp2_with fail
  go_still_tail 8, (by kernel_rfl)
  change wpList _ _ _ _ _ w.drew
  generalize w.drew = W1 at *
  refine wpList_copy_row rfl (.tmp 13) (.tmp 17) 27 27 rfl 22 Tryz.underlying27 Tryz.infoU32 sb 0 32 32 ⟨mb, 0, none⟩ 32 64 rfl rfl 26 43 _ HS1.out (regL X 32) (by rw [regL_len]; rfl) ?_ (by rw [regL_len]; decide) ?_ ?_
  · intro j v hj
    have hlt : j < 32 := by have := (List.getElem?_eq_some_iff.1 hj).1; rwa [regL_len] at this
    rw [regL_at X hlt] at hj
    cases hj
    rw [addr_add]
    exact HM1.out.reg (by omega)
  · intro v hv
    obtain ⟨k, _, rfl⟩ := List.mem_map.1 hv
    rfl
  intro w2 hR2 hK2
  have HS2 := Lib.hid (show StB w2 sb { s with r := fun k => if k < 32 then X k else s.r k } from hR2.eqv (fun k hk => by
    rw [regL_len]
    by_cases e : k < 32
    · have h1 : 0 ≤ k ∧ k < 0 + 32 := ⟨Nat.zero_le _, by omega⟩
      rw [if_pos h1, Nat.sub_zero, List.getD_eq_getElem?_getD, regL_at X e]
      unfold stG
      rw [if_pos e]
      simp [e]
    · have h1 : ¬ (0 ≤ k ∧ k < 0 + 32) := by omega
      rw [if_neg h1]
      unfold stG
      rw [if_neg e, if_neg e]))
  have HM2 := Lib.hid (show MpB w2 mb X rv (.slice none 0 0) from Row.kept HM1.out hK2 HNE.out)
  have HK2 := Lib.hid (HK1.out.trans hK2)
  clear hR2 hK2 HS1 HM1 HK1
  go_wp2_with fail
  have a0 : w2.cell? ⟨mb, 32, none⟩ = some (.int .u32 (X 32)) := HM2.out.reg (show 32 < 64 by decide)
  have a1 : w2.cell? ⟨mb, 33, none⟩ = some (.int .u32 (X 33)) := HM2.out.reg (show 33 < 64 by decide)
  have HS3 := Lib.hid ((StB.drew HS2.out).setHi (X 32))
  have HS4 := Lib.hid (HS3.out.setLo (X 33))
  have HM4 := Lib.hid (show MpB ((w2.drew.setCell ⟨sb, 32, none⟩ (.int .u32 (X 32))).setCell ⟨sb, 33, none⟩ (.int .u32 (X 33))) mb X rv (.slice none 0 0) from Row.kept (Row.kept (MpB.drew HM2.out) (Kept.set w2.drew sb 32 _) HNE.out) (Kept.set _ sb 33 _) HNE.out)
  have HK4 := Lib.hid (((HK2.out.trans (Kept.of_below (Below.refl _ w2).drew)).trans (Kept.set w2.drew sb 32 (.int .u32 (X 32)))).trans (Kept.set _ sb 33 (.int .u32 (X 33))))
  have z0 : w2.cell? ⟨sb, 32, none⟩ = some _ := HS2.out.cell (show 32 < 43 by decide)
  have z0f := HS2.out.free 32
  have z1 : w2.cell? ⟨sb, 33, none⟩ = some _ := HS2.out.cell (show 33 < 43 by decide)
  have z1f := HS2.out.free 33
  simp only [stG] at z0 z1
  clear HS2 HM2 HK2
  refine wp_region_held_drew (S := fun w' => (w'.cell? ⟨mb, 32, none⟩ = some (.int .u32 (X 32)) ∧ w'.cell? ⟨mb, 33, none⟩ = some (.int .u32 (X 33)))) (by kernel_rfl) ?_ (fun hHeld0 => ?_)
  · exact ⟨a0, a1⟩
  refine wpAnyH_take (i := 0) (v := ?_) rfl (by kernel_rfl) (by kernel_rfl) (by kernel_rfl) (fun _ _ _ h => h) (Or.inl ⟨by kernel_rfl, ?_⟩) (by assumption) ?_
  rotate_left
  · (intro wq hSq; (try dsimp only at hSq); go_simp; try with_reducible rfl)
  (try simp only [List.getElem_toArray, List.getElem_cons_succ, List.getElem_cons_zero, Act.put, List.setIfInBounds_toArray, List.set_cons_zero, List.set_cons_succ])
  refine wpAnyH_take (i := 1) (v := ?_) rfl (by kernel_rfl) (by kernel_rfl) (by kernel_rfl) (fun _ _ _ h => h) (Or.inl ⟨by kernel_rfl, ?_⟩) (by assumption) ?_
  rotate_left
  · (intro wq hSq; (try dsimp only at hSq); go_simp; try with_reducible rfl)
  (try simp only [List.getElem_toArray, List.getElem_cons_succ, List.getElem_cons_zero, Act.put, List.setIfInBounds_toArray, List.set_cons_zero, List.set_cons_succ])
  refine wpAnyH_take (i := 2) (v := ?_) rfl (by kernel_rfl) (by kernel_rfl) (by kernel_rfl) (fun _ _ _ h => h) (Or.inl ⟨by kernel_rfl, ?_⟩) (by assumption) ?_
  rotate_left
  · (intro wq hSq; (try dsimp only at hSq); go_simp; try with_reducible rfl)
  (try simp only [List.getElem_toArray, List.getElem_cons_succ, List.getElem_cons_zero, Act.put, List.setIfInBounds_toArray, List.set_cons_zero, List.set_cons_succ])
  refine wpAnyH_take (i := 3) (v := ?_) rfl (by kernel_rfl) (by kernel_rfl) (by kernel_rfl) (fun _ _ _ h => h) (Or.inl ⟨by kernel_rfl, ?_⟩) (by assumption) ?_
  rotate_left
  · (intro wq hSq; (try dsimp only at hSq); go_simp; try with_reducible rfl)
  (try simp only [List.getElem_toArray, List.getElem_cons_succ, List.getElem_cons_zero, Act.put, List.setIfInBounds_toArray, List.set_cons_zero, List.set_cons_succ])
  refine wpAnyH_take (i := 4) (v := ?_) rfl (by kernel_rfl) (by kernel_rfl) (by kernel_rfl) (fun _ _ _ h => h) (Or.inl ⟨by kernel_rfl, ?_⟩) (by assumption) ?_
  rotate_left
  · (intro wq hSq; (try dsimp only at hSq); go_simp; try with_reducible rfl)
  (try simp only [List.getElem_toArray, List.getElem_cons_succ, List.getElem_cons_zero, Act.put, List.setIfInBounds_toArray, List.set_cons_zero, List.set_cons_succ])
  refine wpAnyH_take (i := 5) (v := ?_) rfl (by kernel_rfl) (by kernel_rfl) (by kernel_rfl) (fun _ _ _ h => h) (Or.inl ⟨by kernel_rfl, ?_⟩) (by assumption) ?_
  rotate_left
  · (intro wq hSq; (try dsimp only at hSq); go_simp; try with_reducible rfl)
  (try simp only [List.getElem_toArray, List.getElem_cons_succ, List.getElem_cons_zero, Act.put, List.setIfInBounds_toArray, List.set_cons_zero, List.set_cons_succ])
  refine wpAnyH_take (i := 6) (v := ?_) rfl (by kernel_rfl) (by kernel_rfl) (by kernel_rfl) (fun _ _ _ h => h) (Or.inl ⟨by kernel_rfl, ?_⟩) (by assumption) ?_
  rotate_left
  · (intro wq hSq; (try dsimp only at hSq); go_simp; try with_reducible rfl)
  (try simp only [List.getElem_toArray, List.getElem_cons_succ, List.getElem_cons_zero, Act.put, List.setIfInBounds_toArray, List.set_cons_zero, List.set_cons_succ])
  refine wpAnyH_take (i := 7) (v := ?_) rfl (by kernel_rfl) (by kernel_rfl) (by kernel_rfl) (fun _ _ _ h => h) (Or.inl ⟨by kernel_rfl, ?_⟩) (by assumption) ?_
  rotate_left
  · (intro wq hSq; (try dsimp only at hSq); go_simp; try with_reducible rfl)
  (try simp only [List.getElem_toArray, List.getElem_cons_succ, List.getElem_cons_zero, Act.put, List.setIfInBounds_toArray, List.set_cons_zero, List.set_cons_succ])
  refine wpAnyH_take (i := 8) (v := ?_) rfl (by kernel_rfl) (by kernel_rfl) (by kernel_rfl) (fun _ _ _ h => h) (Or.inl ⟨by kernel_rfl, ?_⟩) (by assumption) ?_
  rotate_left
  · (intro wq hSq; (try dsimp only at hSq); go_simp; try with_reducible rfl)
  (try simp only [List.getElem_toArray, List.getElem_cons_succ, List.getElem_cons_zero, Act.put, List.setIfInBounds_toArray, List.set_cons_zero, List.set_cons_succ])
  refine wpAnyH_take (i := 9) (v := ?_) rfl (by kernel_rfl) (by kernel_rfl) (by kernel_rfl) (fun _ _ _ h => h) (Or.inl ⟨by kernel_rfl, ?_⟩) (by assumption) ?_
  rotate_left
  · (intro wq hSq; (try dsimp only at hSq); go_simp; try with_reducible rfl)
  (try simp only [List.getElem_toArray, List.getElem_cons_succ, List.getElem_cons_zero, Act.put, List.setIfInBounds_toArray, List.set_cons_zero, List.set_cons_succ])
  refine wpAnyH_take (i := 10) (v := ?_) rfl (by kernel_rfl) (by kernel_rfl) (by kernel_rfl) (fun _ _ _ h => h) (Or.inl ⟨by kernel_rfl, ?_⟩) (by assumption) ?_
  rotate_left
  · (intro wq hSq; (try dsimp only at hSq); go_simp; try with_reducible rfl)
  (try simp only [List.getElem_toArray, List.getElem_cons_succ, List.getElem_cons_zero, Act.put, List.setIfInBounds_toArray, List.set_cons_zero, List.set_cons_succ])
  refine wpAnyH_take (i := 11) (v := ?_) rfl (by kernel_rfl) (by kernel_rfl) (by kernel_rfl) (fun _ _ _ h => h) (Or.inl ⟨by kernel_rfl, ?_⟩) (by assumption) ?_
  rotate_left
  · (intro wq hSq; (try dsimp only at hSq); go_simp; try with_reducible rfl)
  (try simp only [List.getElem_toArray, List.getElem_cons_succ, List.getElem_cons_zero, Act.put, List.setIfInBounds_toArray, List.set_cons_zero, List.set_cons_succ])
  refine wpAnyH_take (i := 12) (v := ?_) rfl (by kernel_rfl) (by kernel_rfl) (by kernel_rfl) (fun _ _ _ h => h) (Or.inl ⟨by kernel_rfl, ?_⟩) (by assumption) ?_
  rotate_left
  · (intro wq hSq; (try dsimp only at hSq); go_simp; try with_reducible rfl)
  (try simp only [List.getElem_toArray, List.getElem_cons_succ, List.getElem_cons_zero, Act.put, List.setIfInBounds_toArray, List.set_cons_zero, List.set_cons_succ])
  refine wpAnyH_take (i := 13) (v := ?_) rfl (by kernel_rfl) (by kernel_rfl) (by kernel_rfl) (fun _ _ _ h => h) (Or.inl ⟨by kernel_rfl, ?_⟩) (by assumption) ?_
  rotate_left
  · (intro wq hSq; (try dsimp only at hSq); go_simp; try with_reducible rfl)
  (try simp only [List.getElem_toArray, List.getElem_cons_succ, List.getElem_cons_zero, Act.put, List.setIfInBounds_toArray, List.set_cons_zero, List.set_cons_succ])
  refine wpAnyH_ready (rs := [14]) (by kernel_rfl) (by simp) ?_
  refine AllReadyH.cons rfl (fun K9 hK9 => ?_) AllReadyH.nil
  go_simp
  refine hK9.out _ _ ?_ (fun hHeld1 => ?_)
  · exact ⟨(cell_setCell_block _ _ _ _ HNE.out).trans hHeld0.1, (cell_setCell_block _ _ _ _ HNE.out).trans hHeld0.2⟩
  clear hK9 K9
  (try simp only [List.getElem_toArray, List.getElem_cons_succ, List.getElem_cons_zero, Act.put, List.setIfInBounds_toArray, List.set_cons_zero, List.set_cons_succ])
  refine wpAnyH_take (i := 15) (v := ?_) rfl (by kernel_rfl) (by kernel_rfl) (by kernel_rfl) (fun _ _ _ h => h) (Or.inl ⟨by kernel_rfl, ?_⟩) (by assumption) ?_
  rotate_left
  · (intro wq hSq; (try dsimp only at hSq); go_simp; try with_reducible rfl)
  (try simp only [List.getElem_toArray, List.getElem_cons_succ, List.getElem_cons_zero, Act.put, List.setIfInBounds_toArray, List.set_cons_zero, List.set_cons_succ])
  refine wpAnyH_take (i := 16) (v := ?_) rfl (by kernel_rfl) (by kernel_rfl) (by kernel_rfl) (fun _ _ _ h => h) (Or.inl ⟨by kernel_rfl, ?_⟩) (by assumption) ?_
  rotate_left
  · (intro wq hSq; (try dsimp only at hSq); go_simp; try with_reducible rfl)
  (try simp only [List.getElem_toArray, List.getElem_cons_succ, List.getElem_cons_zero, Act.put, List.setIfInBounds_toArray, List.set_cons_zero, List.set_cons_succ])
  refine wpAnyH_ready (rs := [17]) (by kernel_rfl) (by simp) ?_
  refine AllReadyH.cons rfl (fun K9 hK9 => ?_) AllReadyH.nil
  go_simp
  refine hK9.out _ _ ?_ (fun hHeld2 => ?_)
  · exact ⟨(cell_setCell_block _ _ _ _ HNE.out).trans hHeld1.1, (cell_setCell_block _ _ _ _ HNE.out).trans hHeld1.2⟩
  clear hK9 K9
  (try simp only [List.getElem_toArray, List.getElem_cons_succ, List.getElem_cons_zero, Act.put, List.setIfInBounds_toArray, List.set_cons_zero, List.set_cons_succ])
  refine wpAnyH_done (by kernel_rfl) ?_ _
  change Exit.then _ _ Exit.normal _ ((w2.drew.setCell ⟨sb, 32, none⟩ (.int .u32 (X 32))).setCell ⟨sb, 33, none⟩ (.int .u32 (X 33)))
  clear a0 a1 z0 z0f z1 z1f hHeld0 hHeld1 hHeld2
  generalize (w2.drew.setCell ⟨sb, 32, none⟩ (.int .u32 (X 32))).setCell ⟨sb, 33, none⟩ (.int .u32 (X 33)) = w4 at *
  have z0 : w4.cell? ⟨sb, 34, none⟩ = some _ := HS4.out.cell (show 34 < 43 by decide)
  have z1 : w4.cell? ⟨sb, 35, none⟩ = some _ := HS4.out.cell (show 35 < 43 by decide)
  have z2 : w4.cell? ⟨sb, 42, none⟩ = some (.int .i64 s.count) := HS4.out.cell (show 42 < 43 by decide)
  have z0f := HS4.out.free 34
  have z1f := HS4.out.free 35
  have z2f := HS4.out.free 42
  simp only [stG] at z0 z1
  have HS5 := Lib.hid (((HS4.out.setPc pc).setNext ((pc + 4) % 4294967296)).setCount (s.count + (many : Int)))
  have hk5 : Kept (fun k => k = sb) w4 (((w4.setCell ⟨sb, 34, none⟩ (.int .u32 pc)).setCell ⟨sb, 35, none⟩ (.int .u32 ((pc + 4) % 4294967296))).setCell ⟨sb, 42, none⟩ (.int .i64 (s.count + (many : Int)))) := ((Kept.set w4 sb 34 _).trans (Kept.set _ sb 35 _)).trans (Kept.set _ sb 42 _)
  have HM5 := Lib.hid (show MpB _ mb X rv (.slice none 0 0) from Row.kept HM4.out hk5 HNE.out)
  have HK5 := Lib.hid (HK4.out.trans hk5)
  have q : (((w4.setCell ⟨sb, 34, none⟩ (.int .u32 pc)).setCell ⟨sb, 35, none⟩ (.int .u32 ((pc + 4) % 4294967296))).setCell ⟨sb, 42, none⟩ (.int .i64 (s.count + (many : Int)))).cell? ⟨mb, 65, none⟩ = some (.slice none 0 0) := HM5.out.cell (show 65 < 66 by decide)
  clear hk5
  go_wp2_with fail
  clear z0 z1 z2 z0f z1f z2f q
  generalize ((w4.setCell ⟨sb, 34, none⟩ (.int .u32 pc)).setCell ⟨sb, 35, none⟩ (.int .u32 ((pc + 4) % 4294967296))).setCell ⟨sb, 42, none⟩ (.int .i64 (s.count + (many : Int))) = w5 at *
  go_loopw [58] (fun v wr => v = .int .i64 0 ∧ wr = w5) (fun _ _ => 0)
  case atStart => exact ⟨rfl, rfl⟩
  case round =>
    obtain ⟨rfl, rfl⟩ := hrel
    go_wp2
    go_end0
    exact ⟨rfl, HS5.out, HK5.out⟩
end
end Go.Proofs.YtlnefmgiiogcmaaGreatDoor
namespace Go.Proofs.YtlnefmgiiogcmaaGreatDoor
open Go.RowKit
def hitsW (wt ht : Nat → Bool) (W : List StoW) : Nat → Bool := W.foldl (fun h s => hitP wt h (s.addr / 256)) ht
theorem hitsW_take (wt ht : Nat → Bool) (W : List StoW) (j : Nat) (hj : j < W.length) : hitsW wt ht (W.take (j + 1)) = hitP wt (hitsW wt ht (W.take j)) ((W[j]'hj).addr / 256) := by
  unfold hitsW
  rw [List.take_succ_eq_append_getElem hj, List.foldl_append]
  rfl
theorem WaitAt.kept {w w' : World} {g : Nat} {W : List StoW} {S : Nat → Prop} (h : WaitAt w g W) (hk : Kept S w w') (hs : ¬ S g) : WaitAt w' g W where
  row j hj := by
    obtain ⟨c0, c1, c2⟩ := h.row j hj
    have e := hk.same g h.lt hs
    exact ⟨(World.cell?_of_block (a := ⟨g, _, none⟩) e).trans c0, (World.cell?_of_block (a := ⟨g, _, none⟩) e).trans c1, (World.cell?_of_block (a := ⟨g, _, none⟩) e).trans c2⟩
  lt := Nat.lt_of_lt_of_le h.lt hk.below.size
section
variable {s : StF} {X : Regs}
set_option maxHeartbeats 4000000 in
set_option maxRecDepth 100000 in
theorem leaveP_wait {w : World} {sb mb many g cap r bb mw mh n : Nat} {ws : List Int} {wt ht : Nat → Bool} {W : List StoW} {pc : Int} (hs : StB w sb s) (hm : MpB w mb X (.pointer (some ⟨r, 0, none⟩)) (.slice (some ⟨g, 0, none⟩) W.length cap)) (hne : sb ≠ mb) (c0 : 0 ≤ s.count) (c1 : s.count ≤ 4611686018427387904) (hmany : many ≤ 24)
    (h : RamP w r bb mw mh ws wt ht n) (hn : n < 1099511627000) (hw : WaitAt w g W) (hW : ∀ s ∈ W, Reg32 s.v ∧ (s.size = 1 ∨ s.size = 2 ∨ s.size = 4) ∧ reach (s.addr : Int) s.size = true) (hWl : W.length ≤ 8) (hd : bb ≠ mw ∧ bb ≠ mh ∧ bb ≠ r ∧ mh ≠ r)
    (hsep : r ≠ sb ∧ bb ≠ sb ∧ mw ≠ sb ∧ mh ≠ sb ∧ g ≠ sb) (hsep2 : mb ≠ bb ∧ mb ≠ mh ∧ g ≠ bb ∧ g ≠ mh) :
    Calls Tryz.prog 32 #[.pointer (some ⟨mb, 0, none⟩), .pointer (some ⟨sb, 0, none⟩), .int .u32 pc, .int .i64 (many : Int)] w fun e w' => e = .returned (.tuple #[]) ∧ StB w' sb (leftS s X pc many) ∧ RamP w' r bb mw mh (applyW ws W) wt (hitsW wt ht W) (n + W.length) ∧ Kept (fun k => k = sb ∨ k = bb ∨ k = mh) w w' := by
  have HR0 := Lib.hid h
  have HW0 := Lib.hid hw
  have HWW := Lib.hid hW
  have HD := Lib.hid hd
  have HSEP := Lib.hid hsep
  have HSEP2 := Lib.hid hsep2
  have HN := Lib.hid hn
  have hWI : (W.length : Int) ≤ 8 := by omega
  clear h hw hW hd hsep hsep2 hn hWl
  have HS1 := Lib.hid (StB.drew hs)
  have HM1 := Lib.hid (MpB.drew hm)
  have HK1 := Lib.hid (Kept.of_below (S := fun k => k = sb) (Below.refl w.heap.size w).drew)
  have HNE : Hid (mb ≠ sb) := Lib.hid (fun e => hne e.symm)
  have hcw : IntKind.i64.wrap (s.count + (many : Int)) = s.count + (many : Int) := IntWalk.i64_in _ ⟨by omega, by omega⟩
  have hcw2 : wrap64 (s.count + (many : Int)) = s.count + (many : Int) := IntWalk.wrap64_in _ ⟨by omega, by omega⟩
  clear hs hm hne c0 c1 hmany
  go_enter Tryz.func32, Tryz.ntmps32
  go_wp2_with fail
  go_still_tail 8, (by kernel_rfl)
  change wpList _ _ _ _ _ w.drew
  generalize w.drew = W1 at *
  refine wpList_copy_row rfl (.tmp 13) (.tmp 17) 27 27 rfl 22 Tryz.underlying27 Tryz.infoU32 sb 0 32 32 ⟨mb, 0, none⟩ 32 64 rfl rfl 26 43 _ HS1.out (regL X 32) (by rw [regL_len]; rfl) ?_ (by rw [regL_len]; decide) ?_ ?_
  · intro j v hj
    have hlt : j < 32 := by have := (List.getElem?_eq_some_iff.1 hj).1; rwa [regL_len] at this
    rw [regL_at X hlt] at hj
    cases hj
    rw [addr_add]
    exact HM1.out.reg (by omega)
  · intro v hv
    obtain ⟨k, _, rfl⟩ := List.mem_map.1 hv
    rfl
  intro w2 hR2 hK2
  have HS2 := Lib.hid (show StB w2 sb { s with r := fun k => if k < 32 then X k else s.r k } from hR2.eqv (fun k hk => by
    rw [regL_len]
    by_cases e : k < 32
    · have h1 : 0 ≤ k ∧ k < 0 + 32 := ⟨Nat.zero_le _, by omega⟩
      rw [if_pos h1, Nat.sub_zero, List.getD_eq_getElem?_getD, regL_at X e]
      unfold stG
      rw [if_pos e]
      simp [e]
    · have h1 : ¬ (0 ≤ k ∧ k < 0 + 32) := by omega
      rw [if_neg h1]
      unfold stG
      rw [if_neg e, if_neg e]))
  have HM2 := Lib.hid (show MpB w2 mb X (.pointer (some ⟨r, 0, none⟩)) (.slice (some ⟨g, 0, none⟩) W.length cap) from Row.kept HM1.out hK2 HNE.out)
  have HK2 := Lib.hid (HK1.out.trans hK2)
  clear hR2 hK2 HS1 HM1 HK1
  go_wp2_with fail
  have a0 : w2.cell? ⟨mb, 32, none⟩ = some (.int .u32 (X 32)) := HM2.out.reg (show 32 < 64 by decide)
  have a1 : w2.cell? ⟨mb, 33, none⟩ = some (.int .u32 (X 33)) := HM2.out.reg (show 33 < 64 by decide)
  have HS3 := Lib.hid ((StB.drew HS2.out).setHi (X 32))
  have HS4 := Lib.hid (HS3.out.setLo (X 33))
  have HM4 := Lib.hid (show MpB ((w2.drew.setCell ⟨sb, 32, none⟩ (.int .u32 (X 32))).setCell ⟨sb, 33, none⟩ (.int .u32 (X 33))) mb X (.pointer (some ⟨r, 0, none⟩)) (.slice (some ⟨g, 0, none⟩) W.length cap) from Row.kept (Row.kept (MpB.drew HM2.out) (Kept.set w2.drew sb 32 _) HNE.out) (Kept.set _ sb 33 _) HNE.out)
  have HK4 := Lib.hid (((HK2.out.trans (Kept.of_below (Below.refl _ w2).drew)).trans (Kept.set w2.drew sb 32 (.int .u32 (X 32)))).trans (Kept.set _ sb 33 (.int .u32 (X 33))))
  have z0 : w2.cell? ⟨sb, 32, none⟩ = some _ := HS2.out.cell (show 32 < 43 by decide)
  have z0f := HS2.out.free 32
  have z1 : w2.cell? ⟨sb, 33, none⟩ = some _ := HS2.out.cell (show 33 < 43 by decide)
  have z1f := HS2.out.free 33
  simp only [stG] at z0 z1
  clear HS2 HM2 HK2
  refine wp_region_held_drew (S := fun w' => (w'.cell? ⟨mb, 32, none⟩ = some (.int .u32 (X 32)) ∧ w'.cell? ⟨mb, 33, none⟩ = some (.int .u32 (X 33)))) (by kernel_rfl) ?_ (fun hHeld0 => ?_)
  · exact ⟨a0, a1⟩
  refine wpAnyH_take (i := 0) (v := ?_) rfl (by kernel_rfl) (by kernel_rfl) (by kernel_rfl) (fun _ _ _ h => h) (Or.inl ⟨by kernel_rfl, ?_⟩) (by assumption) ?_
  rotate_left
  · (intro wq hSq; (try dsimp only at hSq); go_simp; try with_reducible rfl)
  (try simp only [List.getElem_toArray, List.getElem_cons_succ, List.getElem_cons_zero, Act.put, List.setIfInBounds_toArray, List.set_cons_zero, List.set_cons_succ])
  refine wpAnyH_take (i := 1) (v := ?_) rfl (by kernel_rfl) (by kernel_rfl) (by kernel_rfl) (fun _ _ _ h => h) (Or.inl ⟨by kernel_rfl, ?_⟩) (by assumption) ?_
  rotate_left
  · (intro wq hSq; (try dsimp only at hSq); go_simp; try with_reducible rfl)
  (try simp only [List.getElem_toArray, List.getElem_cons_succ, List.getElem_cons_zero, Act.put, List.setIfInBounds_toArray, List.set_cons_zero, List.set_cons_succ])
  refine wpAnyH_take (i := 2) (v := ?_) rfl (by kernel_rfl) (by kernel_rfl) (by kernel_rfl) (fun _ _ _ h => h) (Or.inl ⟨by kernel_rfl, ?_⟩) (by assumption) ?_
  rotate_left
  · (intro wq hSq; (try dsimp only at hSq); go_simp; try with_reducible rfl)
  (try simp only [List.getElem_toArray, List.getElem_cons_succ, List.getElem_cons_zero, Act.put, List.setIfInBounds_toArray, List.set_cons_zero, List.set_cons_succ])
  refine wpAnyH_take (i := 3) (v := ?_) rfl (by kernel_rfl) (by kernel_rfl) (by kernel_rfl) (fun _ _ _ h => h) (Or.inl ⟨by kernel_rfl, ?_⟩) (by assumption) ?_
  rotate_left
  · (intro wq hSq; (try dsimp only at hSq); go_simp; try with_reducible rfl)
  (try simp only [List.getElem_toArray, List.getElem_cons_succ, List.getElem_cons_zero, Act.put, List.setIfInBounds_toArray, List.set_cons_zero, List.set_cons_succ])
  refine wpAnyH_take (i := 4) (v := ?_) rfl (by kernel_rfl) (by kernel_rfl) (by kernel_rfl) (fun _ _ _ h => h) (Or.inl ⟨by kernel_rfl, ?_⟩) (by assumption) ?_
  rotate_left
  · (intro wq hSq; (try dsimp only at hSq); go_simp; try with_reducible rfl)
  (try simp only [List.getElem_toArray, List.getElem_cons_succ, List.getElem_cons_zero, Act.put, List.setIfInBounds_toArray, List.set_cons_zero, List.set_cons_succ])
  refine wpAnyH_take (i := 5) (v := ?_) rfl (by kernel_rfl) (by kernel_rfl) (by kernel_rfl) (fun _ _ _ h => h) (Or.inl ⟨by kernel_rfl, ?_⟩) (by assumption) ?_
  rotate_left
  · (intro wq hSq; (try dsimp only at hSq); go_simp; try with_reducible rfl)
  (try simp only [List.getElem_toArray, List.getElem_cons_succ, List.getElem_cons_zero, Act.put, List.setIfInBounds_toArray, List.set_cons_zero, List.set_cons_succ])
  refine wpAnyH_take (i := 6) (v := ?_) rfl (by kernel_rfl) (by kernel_rfl) (by kernel_rfl) (fun _ _ _ h => h) (Or.inl ⟨by kernel_rfl, ?_⟩) (by assumption) ?_
  rotate_left
  · (intro wq hSq; (try dsimp only at hSq); go_simp; try with_reducible rfl)
  (try simp only [List.getElem_toArray, List.getElem_cons_succ, List.getElem_cons_zero, Act.put, List.setIfInBounds_toArray, List.set_cons_zero, List.set_cons_succ])
  refine wpAnyH_take (i := 7) (v := ?_) rfl (by kernel_rfl) (by kernel_rfl) (by kernel_rfl) (fun _ _ _ h => h) (Or.inl ⟨by kernel_rfl, ?_⟩) (by assumption) ?_
  rotate_left
  · (intro wq hSq; (try dsimp only at hSq); go_simp; try with_reducible rfl)
  (try simp only [List.getElem_toArray, List.getElem_cons_succ, List.getElem_cons_zero, Act.put, List.setIfInBounds_toArray, List.set_cons_zero, List.set_cons_succ])
  refine wpAnyH_take (i := 8) (v := ?_) rfl (by kernel_rfl) (by kernel_rfl) (by kernel_rfl) (fun _ _ _ h => h) (Or.inl ⟨by kernel_rfl, ?_⟩) (by assumption) ?_
  rotate_left
  · (intro wq hSq; (try dsimp only at hSq); go_simp; try with_reducible rfl)
  (try simp only [List.getElem_toArray, List.getElem_cons_succ, List.getElem_cons_zero, Act.put, List.setIfInBounds_toArray, List.set_cons_zero, List.set_cons_succ])
  refine wpAnyH_take (i := 9) (v := ?_) rfl (by kernel_rfl) (by kernel_rfl) (by kernel_rfl) (fun _ _ _ h => h) (Or.inl ⟨by kernel_rfl, ?_⟩) (by assumption) ?_
  rotate_left
  · (intro wq hSq; (try dsimp only at hSq); go_simp; try with_reducible rfl)
  (try simp only [List.getElem_toArray, List.getElem_cons_succ, List.getElem_cons_zero, Act.put, List.setIfInBounds_toArray, List.set_cons_zero, List.set_cons_succ])
  refine wpAnyH_take (i := 10) (v := ?_) rfl (by kernel_rfl) (by kernel_rfl) (by kernel_rfl) (fun _ _ _ h => h) (Or.inl ⟨by kernel_rfl, ?_⟩) (by assumption) ?_
  rotate_left
  · (intro wq hSq; (try dsimp only at hSq); go_simp; try with_reducible rfl)
  (try simp only [List.getElem_toArray, List.getElem_cons_succ, List.getElem_cons_zero, Act.put, List.setIfInBounds_toArray, List.set_cons_zero, List.set_cons_succ])
  refine wpAnyH_take (i := 11) (v := ?_) rfl (by kernel_rfl) (by kernel_rfl) (by kernel_rfl) (fun _ _ _ h => h) (Or.inl ⟨by kernel_rfl, ?_⟩) (by assumption) ?_
  rotate_left
  · (intro wq hSq; (try dsimp only at hSq); go_simp; try with_reducible rfl)
  (try simp only [List.getElem_toArray, List.getElem_cons_succ, List.getElem_cons_zero, Act.put, List.setIfInBounds_toArray, List.set_cons_zero, List.set_cons_succ])
  refine wpAnyH_take (i := 12) (v := ?_) rfl (by kernel_rfl) (by kernel_rfl) (by kernel_rfl) (fun _ _ _ h => h) (Or.inl ⟨by kernel_rfl, ?_⟩) (by assumption) ?_
  rotate_left
  · (intro wq hSq; (try dsimp only at hSq); go_simp; try with_reducible rfl)
  (try simp only [List.getElem_toArray, List.getElem_cons_succ, List.getElem_cons_zero, Act.put, List.setIfInBounds_toArray, List.set_cons_zero, List.set_cons_succ])
  refine wpAnyH_take (i := 13) (v := ?_) rfl (by kernel_rfl) (by kernel_rfl) (by kernel_rfl) (fun _ _ _ h => h) (Or.inl ⟨by kernel_rfl, ?_⟩) (by assumption) ?_
  rotate_left
  · (intro wq hSq; (try dsimp only at hSq); go_simp; try with_reducible rfl)
  (try simp only [List.getElem_toArray, List.getElem_cons_succ, List.getElem_cons_zero, Act.put, List.setIfInBounds_toArray, List.set_cons_zero, List.set_cons_succ])
  refine wpAnyH_ready (rs := [14]) (by kernel_rfl) (by simp) ?_
  refine AllReadyH.cons rfl (fun K9 hK9 => ?_) AllReadyH.nil
  go_simp
  refine hK9.out _ _ ?_ (fun hHeld1 => ?_)
  · exact ⟨(cell_setCell_block _ _ _ _ HNE.out).trans hHeld0.1, (cell_setCell_block _ _ _ _ HNE.out).trans hHeld0.2⟩
  clear hK9 K9
  (try simp only [List.getElem_toArray, List.getElem_cons_succ, List.getElem_cons_zero, Act.put, List.setIfInBounds_toArray, List.set_cons_zero, List.set_cons_succ])
  refine wpAnyH_take (i := 15) (v := ?_) rfl (by kernel_rfl) (by kernel_rfl) (by kernel_rfl) (fun _ _ _ h => h) (Or.inl ⟨by kernel_rfl, ?_⟩) (by assumption) ?_
  rotate_left
  · (intro wq hSq; (try dsimp only at hSq); go_simp; try with_reducible rfl)
  (try simp only [List.getElem_toArray, List.getElem_cons_succ, List.getElem_cons_zero, Act.put, List.setIfInBounds_toArray, List.set_cons_zero, List.set_cons_succ])
  refine wpAnyH_take (i := 16) (v := ?_) rfl (by kernel_rfl) (by kernel_rfl) (by kernel_rfl) (fun _ _ _ h => h) (Or.inl ⟨by kernel_rfl, ?_⟩) (by assumption) ?_
  rotate_left
  · (intro wq hSq; (try dsimp only at hSq); go_simp; try with_reducible rfl)
  (try simp only [List.getElem_toArray, List.getElem_cons_succ, List.getElem_cons_zero, Act.put, List.setIfInBounds_toArray, List.set_cons_zero, List.set_cons_succ])
  refine wpAnyH_ready (rs := [17]) (by kernel_rfl) (by simp) ?_
  refine AllReadyH.cons rfl (fun K9 hK9 => ?_) AllReadyH.nil
  go_simp
  refine hK9.out _ _ ?_ (fun hHeld2 => ?_)
  · exact ⟨(cell_setCell_block _ _ _ _ HNE.out).trans hHeld1.1, (cell_setCell_block _ _ _ _ HNE.out).trans hHeld1.2⟩
  clear hK9 K9
  (try simp only [List.getElem_toArray, List.getElem_cons_succ, List.getElem_cons_zero, Act.put, List.setIfInBounds_toArray, List.set_cons_zero, List.set_cons_succ])
  refine wpAnyH_done (by kernel_rfl) ?_ _
  change Exit.then _ _ Exit.normal _ ((w2.drew.setCell ⟨sb, 32, none⟩ (.int .u32 (X 32))).setCell ⟨sb, 33, none⟩ (.int .u32 (X 33)))
  clear a0 a1 z0 z0f z1 z1f hHeld0 hHeld1 hHeld2
  generalize (w2.drew.setCell ⟨sb, 32, none⟩ (.int .u32 (X 32))).setCell ⟨sb, 33, none⟩ (.int .u32 (X 33)) = w4 at *
  have z0 : w4.cell? ⟨sb, 34, none⟩ = some _ := HS4.out.cell (show 34 < 43 by decide)
  have z1 : w4.cell? ⟨sb, 35, none⟩ = some _ := HS4.out.cell (show 35 < 43 by decide)
  have z2 : w4.cell? ⟨sb, 42, none⟩ = some (.int .i64 s.count) := HS4.out.cell (show 42 < 43 by decide)
  have z0f := HS4.out.free 34
  have z1f := HS4.out.free 35
  have z2f := HS4.out.free 42
  simp only [stG] at z0 z1
  have HS5 := Lib.hid (((HS4.out.setPc pc).setNext ((pc + 4) % 4294967296)).setCount (s.count + (many : Int)))
  have hk5 : Kept (fun k => k = sb) w4 (((w4.setCell ⟨sb, 34, none⟩ (.int .u32 pc)).setCell ⟨sb, 35, none⟩ (.int .u32 ((pc + 4) % 4294967296))).setCell ⟨sb, 42, none⟩ (.int .i64 (s.count + (many : Int)))) := ((Kept.set w4 sb 34 _).trans (Kept.set _ sb 35 _)).trans (Kept.set _ sb 42 _)
  have HM5 := Lib.hid (show MpB _ mb X (.pointer (some ⟨r, 0, none⟩)) (.slice (some ⟨g, 0, none⟩) W.length cap) from Row.kept HM4.out hk5 HNE.out)
  have HK5 := Lib.hid (HK4.out.trans hk5)
  have q : (((w4.setCell ⟨sb, 34, none⟩ (.int .u32 pc)).setCell ⟨sb, 35, none⟩ (.int .u32 ((pc + 4) % 4294967296))).setCell ⟨sb, 42, none⟩ (.int .i64 (s.count + (many : Int)))).cell? ⟨mb, 65, none⟩ = some (.slice (some ⟨g, 0, none⟩) W.length cap) := HM5.out.cell (show 65 < 66 by decide)
  clear hk5
  go_wp2_with fail
  clear z0 z1 z2 z0f z1f z2f q
  generalize ((w4.setCell ⟨sb, 34, none⟩ (.int .u32 pc)).setCell ⟨sb, 35, none⟩ (.int .u32 ((pc + 4) % 4294967296))).setCell ⟨sb, 42, none⟩ (.int .i64 (s.count + (many : Int))) = w5 at *
  have HR5 := Lib.hid (HR0.out.kept HK5.out HSEP.out.1 HSEP.out.2.1 HSEP.out.2.2.1 HSEP.out.2.2.2.1)
  have HW5 := Lib.hid (HW0.out.kept HK5.out HSEP.out.2.2.2.2)
  clear HR0 HW0
  go_loopw [58] (fun i wr => ∃ j : Nat, j ≤ W.length ∧ i = .int .i64 (j : Int) ∧ Hid (RamP wr r bb mw mh (applyW ws (W.take j)) wt (hitsW wt ht (W.take j)) (n + j)) ∧ Hid (Kept (fun k => k = bb ∨ k = mh) w5 wr)) (fun i _ => W.length - (intOf i).toNat)
  case atStart => exact ⟨0, Nat.zero_le _, rfl, HR5, Lib.hid (Kept.refl _ _)⟩
  case round =>
    obtain ⟨j, hj, rfl, HRj, HKj⟩ := hrel
    by_cases hlt : j < W.length
    · have hjI : (j : Int) < (W.length : Int) := by omega
      have HMj := Lib.hid (Row.kept HM5.out HKj.out (by have := HSEP2.out; omega))
      obtain ⟨c0, c1, c2⟩ := (HW5.out.kept HKj.out (by have := HSEP2.out; omega)).row j hlt
      obtain ⟨⟨s0, s1⟩, hsz, hre⟩ := HWW.out _ (List.getElem_mem hlt)
      have HST := Lib.hid (fun (wx : World) (hx : RamP wx r bb mw mh (applyW ws (W.take j)) wt (hitsW wt ht (W.take j)) (n + j)) => ramStore_yes hx (by have := HN.out; omega) (W[j]'hlt).addr (W[j]'hlt).size hsz hre (W[j]'hlt).v ⟨s0, s1⟩ HD.out)
      have HE1 := Lib.hid (applyW_take ws W j hlt)
      have HE2 := Lib.hid (hitsW_take wt ht W j hlt)
      generalize hA : applyW ws (W.take j) = wsj at *
      generalize hB : hitsW wt ht (W.take j) = htj at *
      generalize (W[j]'hlt).addr = sa at *
      generalize (W[j]'hlt).size = sz at *
      generalize (W[j]'hlt).v = sv at *
      have HLT := Lib.hid hlt
      have hX := (Below.refl wr.heap.size wr).alloc (Nat.le_refl _) (.cells #[.int .u32 (sa : Int), .int .i64 (sz : Int), .int .u32 sv] 124)
      have HBX := Lib.hid hX
      have m64 : (wr.alloc (.cells #[.int .u32 (sa : Int), .int .i64 (sz : Int), .int .u32 sv] 124)).cell? ⟨mb, 64, none⟩ = some (.pointer (some ⟨r, 0, none⟩)) := (hX.cell (p := ⟨mb, 64, none⟩) HMj.out.lt).trans (HMj.out.cell (show 64 < 66 by decide))
      have HX := Lib.hid (three_cells (heap_alloc_new wr (.cells #[.int .u32 (sa : Int), .int .i64 (sz : Int), .int .u32 sv] 124)))
      clear hX hlt hA hB hsz hre
      go_wp2_with fail
      generalize wr.alloc (.cells #[.int .u32 (sa : Int), .int .i64 (sz : Int), .int .u32 sv] 124) = V at *
      obtain ⟨e0, e1, e2⟩ := HX.out
      go_still_tail 10, (by kernel_rfl)
      change wpList _ _ _ _ _ V.drew
      have HB1 := Lib.hid (HBX.out.trans ((Below.refl V.heap.size V).drew.mono HBX.out.size))
      clear e0 e1 e2 m64 HBX HX c0 c1 c2
      generalize V.drew = V1 at *
      go_wp2_with fail
      refine (HST.out V1 (HRj.out.below HB1.out)).mono ?_
      rintro e w7 ⟨rfl, hr7, hk7⟩
      have HR7 := Lib.hid hr7
      have HK7 := Lib.hid (HKj.out.trans ((Kept.of_below HB1.out).trans hk7))
      rw [← HE1.out, ← HE2.out, Nat.add_assoc] at HR7
      clear hr7 hk7
      go_wp2_with fail
      go_roundw
      case rel => exact ⟨j + 1, HLT.out, by go_num, HR7, HK7⟩
      case measure => have := HLT.out; go_light; simp [intOf]; omega
    · obtain rfl : j = W.length := by omega
      have hd : decide ((W.length : Int) < (W.length : Int)) = false := decide_eq_false (by omega)
      rw [List.take_length] at HRj
      have HSF := Lib.hid (Row.kept HS5.out HKj.out (by have := HSEP.out; omega))
      go_wp2_with fail
      go_end0
      exact ⟨rfl, HSF.out, HRj.out, (HK5.out.mono (fun k e => Or.inl e)).trans (HKj.out.mono (fun k e => Or.inr e))⟩
end
end Go.Proofs.YtlnefmgiiogcmaaGreatDoor
