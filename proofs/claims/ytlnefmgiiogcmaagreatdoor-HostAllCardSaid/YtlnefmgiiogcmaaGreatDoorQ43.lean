/- The walk of ir's Lower at a right region. Conditions: as each theorem states. -/
import Derived.Test.YtlnefmgiiogcmaaGreatDoorQ42
set_option linter.unusedVariables false
set_option linter.unusedSimpArgs false
namespace Go.Proofs.YtlnefmgiiogcmaaGreatDoor
open Go.RowKit
theorem lowUpto_take (pc : Int) (e : Bool) (n : Nat) (l : List InsN) (j : Nat) (h : j < l.length) : lowUpto pc e n (l.take (j + 1)) 0 = lowUpto pc e n (l.take j) 0 ++ lowAt pc e n l[j] j := by
  rw [List.take_add_one, lowUpto_app, List.getElem?_eq_getElem h]
  have hl : (l.take j).length = j := by rw [List.length_take]; omega
  rw [hl, Nat.zero_add]
  simp [lowUpto]
theorem lowUpto_short {l : List InsN} {pc : Int} (h : regErr l = 0) (hm : ∀ i ∈ l, 0 ≤ i.imm) (hl : l.length ≤ 24) (j : Nat) (hj : j ≤ l.length) : (lowUpto pc (endsB l) l.length (l.take j) 0).length ≤ 100 := by
  have hp := low_parts (pc := pc) h hm
  obtain ⟨a, _⟩ := lowUpto_len (pc := pc) (e := endsB l) (n := l.length) (l.take j) 0 (fun k hk => by
    rw [List.length_take] at hk
    have := hp k (by omega)
    rw [List.getElem_take]
    exact this)
  rw [List.length_take] at a
  omega
theorem five_here {w : World} {lb : Nat} {v c0 c1 c2 c3 c4 : Value} {ty : Nat} (h : lb < w.heap.size) : ∀ i, i < 5 → ((w.alloc (.cells #[c0, c1, c2, c3, c4] ty)).setCell ⟨lb, 1, none⟩ v).cell? ⟨w.heap.size, i, none⟩ = #[c0, c1, c2, c3, c4][i]? := by
  intro i hi
  have e : ((w.alloc (.cells #[c0, c1, c2, c3, c4] ty)).setCell ⟨lb, 1, none⟩ v).heap[w.heap.size]? = some (.cells #[c0, c1, c2, c3, c4] ty) := by
    rw [setCell_other _ _ _ _ _ (show w.heap.size ≠ lb by omega)]
    exact heap_alloc_new w _
  simp only [World.cell?, e]
  rcases i with _ | _ | _ | _ | _ | i
  · rfl
  · rfl
  · rfl
  · rfl
  · rfl
  · omega
theorem own_slice {w : World} {base : Nat} {e : TypeId} {size : Nat} {v : Value} {n : Nat} {xs : List Value} (h : w.ownsRow base e size v n xs) : ∃ a n c, v = .slice a n c := by
  rcases h.2 with ⟨h1, _⟩ | ⟨g, cap, cur, hv, _, hg, _⟩
  · exact ⟨_, _, _, h1⟩
  · exact ⟨_, _, _, hv⟩
theorem lower_out {w wr : World} {lb n : Nat} {pc : Int} {ov a b c : Value} {ops : List OpN} (h : LwW w wr lb pc n ov ops) (hC : Tri3C wr (w.heap.size + 1) a b c) (v0 v1 v2 : Value) :
    (fill3C wr (w.heap.size + 1) v0 v1 v2).ownsRow w.heap.size 61 6 ov ops.length (ops.flatMap opC) ∧ Below w.heap.size w (fill3C wr (w.heap.size + 1) v0 v1 v2) ∧ Tri3C (fill3C wr (w.heap.size + 1) v0 v1 v2) (w.heap.size + 1) v0 v1 v2 := by
  refine ⟨own_block h.ops (fun g hg => ?_), below_fill3C h.below (Nat.le_succ _) v0 v1 v2, hC.fill v0 v1 v2⟩
  have hne : g ≠ w.heap.size + 1 := fun e => own_ne h.ops hC (by decide) (by rw [hg, e])
  exact (setCell_other _ _ _ _ _ hne).trans ((setCell_other _ _ _ _ _ hne).trans (setCell_other _ _ _ _ _ hne))
set_option maxHeartbeats 8000000 in
set_option maxRecDepth 100000 in
theorem lower_good {w : World} {g cap : Nat} {l : List InsN} {pc : Int} {vp : Value} {ad : Nat → Addr} (h : InsAt w g 0 l) (hf : ∀ i ∈ l, i.Fits) (hS : Sents w ad) (hr : regErr l = 0) (p0 : 0 ≤ pc) (p1 : pc < 4294967296) (hty : ∃ cs fr, w.heap[g]? = some (.cells cs 69 fr)) :
    Calls Tryz.prog 6 #[.agg #[.int .u32 pc, .slice (some ⟨g, 0, none⟩) l.length cap, vp]] w fun e w' => LowerPost w pc l ad e w' := by
  have hm : ∀ i ∈ l, 0 ≤ i.imm := fun i hi => (hf i hi).m0
  obtain ⟨hne, hl24, hst, hpart⟩ := reg_parts hr hm
  have hlen : 0 < l.length := List.length_pos_iff.2 hne
  have hb1 := (Below.refl w.heap.size w).alloc (Nat.le_refl _) (.cells #[.int .u32 pc, .slice (some ⟨g, 0, none⟩) l.length cap, vp] 41)
  have hb2 := hb1.alloc hb1.size (.cells #[.int .u32 0, .int .i64 0, .slice none 0 0] 34)
  have HB2 := Lib.hid hb2
  have HRT : Hid (∀ wx, Below w.heap.size w wx → Calls Tryz.prog 16 #[.agg #[.int .u32 pc, .slice (some ⟨g, 0, none⟩) l.length cap, vp]] wx fun e w' => e = .returned .nilIface ∧ Below wx.heap.size wx w') := by
    refine Lib.hid ?_
    intro wx hb
    have := right_any (cap := cap) (pc := pc) (vp := vp) (by omega) (h.below hb hlen) hf (hS.below hb)
    unfold errV at this
    rw [if_pos hr] at this
    exact this
  have HEN : Hid (∀ wx, Below w.heap.size w wx → Calls Tryz.prog 17 #[.agg #[.int .u32 pc, .slice (some ⟨g, 0, none⟩) l.length cap, vp]] wx fun e w' => e = .returned (.string (if endsB l = true then ⟨#[98, 114, 97, 110, 99, 104]⟩ else ⟨#[111, 110]⟩)) ∧ Below wx.heap.size wx w') := Lib.hid fun wx hb => ends_any (by omega) (h.below hb hlen) (fun j hj => (hpart j hj).2.2.2.2)
  have HP := Lib.hid hpart
  have HM := Lib.hid hm
  have HRE := Lib.hid hr
  have HL24 := Lib.hid hl24
  have HLEN := Lib.hid hlen
  have HIN := Lib.hid h
  have HTY := Lib.hid hty
  have l24 : (l.length : Int) ≤ 24 := by omega
  have l0 : (0 : Int) < (l.length : Int) := by omega
  have hbr := heap_alloc_new w (.cells #[.int .u32 pc, .slice (some ⟨g, 0, none⟩) l.length cap, vp] 41)
  have HT0 : Hid (Tri3C ((w.alloc (.cells #[.int .u32 pc, .slice (some ⟨g, 0, none⟩) l.length cap, vp] 41)).alloc (.cells #[.int .u32 0, .int .i64 0, .slice none 0 0] 34)) (w.heap.size + 1) (.int .u32 0) (.int .i64 0) (.slice none 0 0) ∧ Tri3 ((w.alloc (.cells #[.int .u32 pc, .slice (some ⟨g, 0, none⟩) l.length cap, vp] 41)).alloc (.cells #[.int .u32 0, .int .i64 0, .slice none 0 0] 34)) w.heap.size (.int .u32 pc) (.slice (some ⟨g, 0, none⟩) l.length cap) vp) := by
    refine Lib.hid ?_
    have e : (w.alloc (.cells #[.int .u32 pc, .slice (some ⟨g, 0, none⟩) l.length cap, vp] 41)).heap.size = w.heap.size + 1 := by simp
    have h1 := heap_alloc_new (w.alloc (.cells #[.int .u32 pc, .slice (some ⟨g, 0, none⟩) l.length cap, vp] 41)) (.cells #[.int .u32 0, .int .i64 0, .slice none 0 0] 34)
    have h2 := ((Below.refl _ (w.alloc (.cells #[.int .u32 pc, .slice (some ⟨g, 0, none⟩) l.length cap, vp] 41))).alloc (Nat.le_refl _) (.cells #[.int .u32 0, .int .i64 0, .slice none 0 0] 34)).block w.heap.size (by rw [e]; omega)
    rw [e] at h1
    exact ⟨h1, h2.trans hbr⟩
  clear h hf hS hr hb1 hb2 hm hne hl24 hst hpart hlen hty hbr
  go_enter Tryz.func6, Tryz.ntmps6
  go_wp2_with fail
  generalize (w.alloc (.cells #[.int .u32 pc, .slice (some ⟨g, 0, none⟩) l.length cap, vp] 41)).alloc (.cells #[.int .u32 0, .int .i64 0, .slice none 0 0] 34) = W at *
  refine (HRT.out _ HB2.out).mono ?_
  rintro e w1 ⟨rfl, hb⟩
  have hbw1 := HB2.out.trans (hb.mono HB2.out.size)
  have HTC1 : Hid (Tri3C w1 (w.heap.size + 1) (.int .u32 0) (.int .i64 0) (.slice none 0 0)) := Lib.hid ((hb.block _ (Array.getElem?_eq_some_iff.1 HT0.out.1).1).trans HT0.out.1)
  have HTR1 : Hid (Tri3 w1 w.heap.size (.int .u32 pc) (.slice (some ⟨g, 0, none⟩) l.length cap) vp) := Lib.hid ((hb.block _ (Array.getElem?_eq_some_iff.1 HT0.out.2).1).trans HT0.out.2)
  obtain ⟨r0, r1, r2⟩ := Tri3.cells HTR1.out
  -- the lowering
  have hl2 : Below w1.heap.size w1 (w1.alloc (.cells #[.int .u32 pc, .int .i64 0, .slice none 0 0] 66)) := (Below.refl _ _).alloc (Nat.le_refl _) _
  have HLW : Hid (LwW w (w1.alloc (.cells #[.int .u32 pc, .int .i64 0, .slice none 0 0] 66)) w1.heap.size pc 0 (.slice none 0 0) []) := Lib.hid ⟨heap_alloc_new w1 _, World.ownsRow_nil _ _ _ _, hbw1.trans (hl2.mono hbw1.size), hbw1.size, Nat.le_trans hbw1.size hl2.size⟩
  have HBW2 := Lib.hid (hbw1.trans (hl2.mono hbw1.size))
  have HBL := Lib.hid hl2
  obtain ⟨v0, v1, v2⟩ := Tri3.cells ((hl2.block _ (Array.getElem?_eq_some_iff.1 HTR1.out).1).trans HTR1.out)
  have HLL : Hid (w.heap.size < w1.heap.size ∧ w.heap.size + 1 < w1.heap.size) := Lib.hid ⟨(Array.getElem?_eq_some_iff.1 HTR1.out).1, (Array.getElem?_eq_some_iff.1 HTC1.out).1⟩
  clear hb hbw1 hl2
  go_wp2_with fail
  generalize hW2 : w1.alloc (.cells #[.int .u32 pc, .int .i64 0, .slice none 0 0] 66) = W2 at *
  refine (HEN.out _ HBW2.out).mono ?_
  rintro e w3 ⟨rfl, hb3⟩
  obtain ⟨lb, hlb⟩ : ∃ lb, w1.heap.size = lb := ⟨_, rfl⟩
  rw [hlb] at HLW HLL HBL ⊢
  have HL3 := Lib.hid (HLW.out.trans hb3)
  have HTR3 : Hid (Tri3 w3 w.heap.size (.int .u32 pc) (.slice (some ⟨g, 0, none⟩) l.length cap) vp) := Lib.hid ((hb3.block _ (by have := HBL.out.size; have := HLL.out; omega)).trans ((HBL.out.block _ HLL.out.1).trans HTR1.out))
  have HTC3 : Hid (Tri3C w3 (w.heap.size + 1) (.int .u32 0) (.int .i64 0) (.slice none 0 0)) := Lib.hid ((hb3.block _ (by have := HBL.out.size; have := HLL.out; omega)).trans ((HBL.out.block _ HLL.out.2).trans HTC1.out))
  have HBW3 := Lib.hid (HBW2.out.trans (hb3.mono HBW2.out.size))
  obtain ⟨x0, x1, x2⟩ := Tri3.cells HTR3.out
  generalize heb : endsB l = eb at *
  have HEB := Lib.hid heb
  clear hb3 v0 v1 v2 hlb hW2 heb
  have HGR : Hid (∃ cs fr, w3.heap[g]? = some (.cells cs 69 fr)) := by
    refine Lib.hid ?_
    obtain ⟨cs, fr, h⟩ := HTY.out
    exact ⟨cs, fr, (HBW3.out.block g (Array.getElem?_eq_some_iff.1 h).1).trans h⟩
  have HIN3 : Hid (InsAt w3 g 0 l) := Lib.hid (HIN.out.below HBW3.out HLEN.out)
  have hebq : ((if eb = true then (⟨#[98, 114, 97, 110, 99, 104]⟩ : ByteArray) else ⟨#[111, 110]⟩).toList == [98, 114, 97, 110, 99, 104]) = eb := by
    cases eb <;> decide +kernel
  generalize (if eb = true then (⟨#[98, 114, 97, 110, 99, 104]⟩ : ByteArray) else ⟨#[111, 110]⟩) = et at *
  go_wp2_with fail
  go_loopw [29] (fun iv wr => ∃ (j n : Nat) (ov : Value), j ≤ l.length ∧ iv = .int .i64 (j : Int) ∧ n = j - 1 ∧ Hid (LwW w wr lb pc n ov (lowUpto pc eb l.length (l.take j) 0)) ∧ Hid (KeptT w3 wr)) (fun iv _ => l.length - (intOf iv).toNat)
  case atStart => exact ⟨0, 0, _, Nat.zero_le _, rfl, rfl, HL3, Lib.hid (KeptT.refl _)⟩
  case round =>
    obtain ⟨j, n, ov, hj, rfl, hn, HL, HK⟩ := hrel
    by_cases hlt : j < l.length
    · have hjI : (j : Int) < (l.length : Int) := by omega
      obtain ⟨rI, b1, b2, _, _⟩ := HP.out j hlt
      have HB1 := Lib.hid b1
      have HB2' := Lib.hid b2
      obtain ⟨cs, fr, hgb⟩ := HGR.out
      obtain ⟨i0, i1, i2, i3, i4⟩ := HIN3.out.row j hlt
      rw [Nat.zero_add] at i0 i1 i2 i3 i4
      have c0 := KeptT.cell HK.out hgb (by decide) (by decide) i0
      have c1 := KeptT.cell HK.out hgb (by decide) (by decide) i1
      have c2 := KeptT.cell HK.out hgb (by decide) (by decide) i2
      have c3 := KeptT.cell HK.out hgb (by decide) (by decide) i3
      have c4 := KeptT.cell HK.out hgb (by decide) (by decide) i4
      have HTK := Lib.hid (lowUpto_take pc eb l.length l j hlt)
      have HSH : Hid ((lowUpto pc eb l.length (l.take j) 0).length ≤ 100) := Lib.hid (by have := lowUpto_short (pc := pc) HRE.out HM.out HL24.out j hj; rw [HEB.out] at this; exact this)
      have HENB : Hid (2 ≤ l.length → j + 2 = l.length → endsB l = brOp (l[j]'hlt).o) := by
        refine Lib.hid ?_
        intro h2 hj2
        rw [endsB_at h2]
        simp only [show l.length - 2 = j by omega]
      generalize l[j]'hlt = x at *
      obtain ⟨r1, r2, r3, r4, r5, r6, r7, r8, r9, r10⟩ := rI
      obtain ⟨d1, d2, d3⟩ := r4
      obtain ⟨xo, hxo⟩ : ∃ xo, x.o = xo := ⟨_, rfl⟩
      obtain ⟨xs, hxs⟩ : ∃ xs, x.s.toNat = xs := ⟨_, rfl⟩
      obtain ⟨xt, hxt⟩ : ∃ xt, x.t.toNat = xt := ⟨_, rfl⟩
      obtain ⟨xd, hxd⟩ : ∃ xd, x.d.toNat = xd := ⟨_, rfl⟩
      obtain ⟨xm, hxm⟩ : ∃ xm, x.imm = xm := ⟨_, rfl⟩
      rw [hxo] at r3
      rw [hxs] at r5
      rw [hxt] at r6
      rw [hxd] at r7
      rw [r3] at c0
      rw [r5] at c1
      rw [r6] at c2
      rw [r7] at c3
      rw [hxm] at c4
      obtain ⟨lc0, lc1, lc2, lf1, lf2⟩ := LB.cells HL.out.blk
      have hlbw : lb < wr.heap.size := (Array.getElem?_eq_some_iff.1 HL.out.blk).1
      have FV := fun i (hi : i < 5) => five_here (w := wr) (lb := lb) (v := .int .i64 (j : Int)) (c0 := .int .i64 (xo : Int)) (c1 := .int .i64 (xs : Int)) (c2 := .int .i64 (xt : Int)) (c3 := .int .i64 (xd : Int)) (c4 := .int .u32 xm) (ty := 69) hlbw i hi
      have k0 := FV 0 (by decide)
      have k1 := FV 1 (by decide)
      have k2 := FV 2 (by decide)
      have k3 := FV 3 (by decide)
      have k4 := FV 4 (by decide)
      clear FV
      obtain ⟨mc0, mc1, mc2, mf1, mf2⟩ := LB.cells (HL.out.trans ((Below.refl _ wr).alloc (Nat.le_refl _) (.cells #[.int .i64 (xo : Int), .int .i64 (xs : Int), .int .i64 (xt : Int), .int .i64 (xd : Int), .int .u32 xm] 69))).blk
      have HJ := Lib.hid hlt
      have HLX : Hid (∀ wx, Below (wr.setCell ⟨lb, 1, none⟩ (.int .i64 (j : Int))).heap.size (wr.setCell ⟨lb, 1, none⟩ (.int .i64 (j : Int))) wx → LwW w wx lb pc j ov (lowUpto pc eb l.length (l.take j) 0)) := Lib.hid fun wx hb => (HL.out.setAt j).trans hb
      have HKX : Hid (∀ wx, Below (wr.setCell ⟨lb, 1, none⟩ (.int .i64 (j : Int))).heap.size (wr.setCell ⟨lb, 1, none⟩ (.int .i64 (j : Int))) wx → KeptT w3 wx) := Lib.hid fun wx hb => (HK.out.trans (KeptT.setAt HL.out.blk j)).trans (KeptT.of_below hb)
      by_cases hbj : eb = true ∧ j + 2 = l.length
      · obtain ⟨rfl, hj2⟩ := hbj
        have hbrx : brOp x.o = true := by rw [← HENB.out (by omega) hj2]; exact HEB.out
        have fq : ((j : Int) == (l.length : Int) - 2) = true := by simp only [beq_iff_eq]; omega
        have HLA : Hid (lowAt pc true l.length x j = lowBr pc xo xs xt xd j) := Lib.hid (by unfold lowAt; rw [if_pos ⟨rfl, hj2⟩, hxo, hxs, hxt, hxd])
        rw [hxo] at hbrx
        have HBC := Lib.hid (fun wx (hb : Below (wr.setCell ⟨lb, 1, none⟩ (.int .i64 (j : Int))).heap.size (wr.setCell ⟨lb, 1, none⟩ (.int .i64 (j : Int))) wx) => branch_any (HLX.out wx hb) (by have := HSH.out; omega) xo xs xt xd hbrx xm p0 p1 (by have := HL24.out; omega))
        clear r1 r2 r3 r5 r6 r7 r8 r9 r10 d1 d2 d3 hxo hxs hxt hxd hxm b1 b2 i0 i1 i2 i3 i4 hgb hj2 hbrx hn
        go_wp2_with fail
        refine (HBC.out _ (bw_al (Below.refl _ _))).mono ?_
        rintro e w5 ⟨rfl, hK5, ov5, hL5⟩
        have HL5 : Hid (LwW w w5 lb pc j ov5 (lowUpto pc true l.length (l.take (j + 1)) 0)) := Lib.hid (by rw [HTK.out, HLA.out]; exact hL5)
        have HK5 := Lib.hid ((HKX.out _ (bw_al (Below.refl _ _))).trans hK5)
        clear hK5 hL5
        go_wp2
        refine ⟨⟨j + 1, j, ov5, by have := HJ.out; omega, by go_num, rfl, HL5, HK5⟩, ?_⟩
        simp [intOf]
        have := HJ.out
        omega
      · have hnb : brOp x.o = false := by
          cases hh : brOp x.o with
          | false => rfl
          | true =>
            have hj2 := b1 hh
            exact absurd ⟨by rw [← HEB.out, HENB.out (by omega) hj2]; exact hh, hj2⟩ hbj
        have hpl := b2 hnb
        have HLA : Hid (lowAt pc eb l.length x j = lowIns xo xs xt xd xm j) := Lib.hid (by unfold lowAt; rw [if_neg hbj, hxo, hxs, hxt, hxd, hxm])
        have hm2 := r10 hpl
        rw [hxo] at hpl
        rw [hxm] at hm2 r8
        have HBC := Lib.hid (fun wx (hb : Below (wr.setCell ⟨lb, 1, none⟩ (.int .i64 (j : Int))).heap.size (wr.setCell ⟨lb, 1, none⟩ (.int .i64 (j : Int))) wx) => ins_any (HLX.out wx hb) (by have := HSH.out; omega) xo xs xt xd hpl xm r8 hm2)
        have hcase : eb = false ∨ (eb = true ∧ ((j : Int) == (l.length : Int) - 2) = false) := by
          cases eb with
          | false => exact Or.inl rfl
          | true => exact Or.inr ⟨rfl, by simp only [beq_eq_false_iff_ne, ne_eq]; intro e; exact hbj ⟨rfl, by omega⟩⟩
        clear r1 r2 r3 r5 r6 r7 r8 r9 r10 d1 d2 d3 hxo hxs hxt hxd hxm b1 b2 i0 i1 i2 i3 i4 hgb hnb hpl hm2 hbj hn
        rcases hcase with rfl | ⟨rfl, fq⟩
        all_goals
          go_wp2_with fail
          refine (HBC.out _ (bw_al (Below.refl _ _))).mono ?_
          rintro e w5 ⟨rfl, hK5, ov5, hL5⟩
          have HL5 : Hid (LwW w w5 lb pc j ov5 (lowUpto pc _ l.length (l.take (j + 1)) 0)) := Lib.hid (by rw [HTK.out, HLA.out]; exact hL5)
          have HK5 := Lib.hid ((HKX.out _ (bw_al (Below.refl _ _))).trans hK5)
          clear hK5 hL5
          go_wp2
          refine ⟨⟨j + 1, j, ov5, by have := HJ.out; omega, by go_num, rfl, HL5, HK5⟩, ?_⟩
          simp [intOf]
          have := HJ.out
          omega
    · have he : j = l.length := by omega
      subst he
      rw [List.take_length] at HL
      have hn2 : n = l.length - 1 := hn
      subst hn2
      have y0 := KeptT.cell HK.out HTR3.out (by decide) (by decide) x0
      have y1 := KeptT.cell HK.out HTR3.out (by decide) (by decide) x1
      have HPO : Hid (∀ w' ov', w'.ownsRow w.heap.size 61 6 ov' (lowAll pc l).length ((lowAll pc l).flatMap opC) → Below w.heap.size w w' → LowerPost w pc l ad (.returned (.tuple #[.agg #[.int .u32 pc, .int .i64 (l.length : Int), ov'], .nilIface])) w') := by
        refine Lib.hid ?_
        intro w' ov' h1 h2
        unfold LowerPost
        rw [if_pos HRE.out]
        exact ⟨ov', rfl, h1, h2⟩
      have HLEN2 : Hid ((lowUpto pc eb l.length l 0).length ≤ 100) := Lib.hid (by have := lowUpto_short (pc := pc) HRE.out HM.out HL24.out l.length (Nat.le_refl _); rw [HEB.out, List.take_length] at this; exact this)
      cases eb with
      | true =>
        have h2 : 2 ≤ l.length := by
          rcases Nat.lt_or_ge l.length 2 with hh | hh
          · have := HEB.out
            rw [endsB_short hh] at this
            cases this
          · exact hh
        obtain ⟨z, hz⟩ : ∃ z : Nat, l.length = z + 2 := ⟨l.length - 2, by omega⟩
        have hzl : z < l.length := by omega
        have hbz : brOp (l[z]'hzl).o = true := by
          have := HEB.out
          rw [endsB_at h2] at this
          simp only [show l.length - 2 = z by omega] at this
          exact this
        have HAL : Hid (lowAll pc l = lowUpto pc true l.length l 0 ++ lowLv ((pc + 4 * (z : Int)) % 4294967296) (l[z]'hzl).o (l[z]'hzl).imm (l.length - 1)) := by
          refine Lib.hid ?_
          unfold lowAll
          rw [HEB.out, if_pos rfl]
          simp only [show l.length - 2 = z by omega, List.getElem?_eq_getElem hzl, Option.getD_some]
        obtain ⟨rI, _, _, _, _⟩ := HP.out z hzl
        obtain ⟨cs, fr, hgb⟩ := HGR.out
        obtain ⟨i0, i1, i2, i3, i4⟩ := HIN3.out.row z hzl
        rw [Nat.zero_add] at i0 i1 i2 i3 i4
        have c0 := KeptT.cell HK.out hgb (by decide) (by decide) i0
        have c1 := KeptT.cell HK.out hgb (by decide) (by decide) i1
        have c2 := KeptT.cell HK.out hgb (by decide) (by decide) i2
        have c3 := KeptT.cell HK.out hgb (by decide) (by decide) i3
        have c4 := KeptT.cell HK.out hgb (by decide) (by decide) i4
        generalize l[z]'hzl = x at *
        obtain ⟨r1, r2, r3, r4, r5, r6, r7, r8, r9, r10⟩ := rI
        obtain ⟨xo, hxo⟩ : ∃ xo, x.o = xo := ⟨_, rfl⟩
        obtain ⟨xs, hxs⟩ : ∃ xs, x.s.toNat = xs := ⟨_, rfl⟩
        obtain ⟨xt, hxt⟩ : ∃ xt, x.t.toNat = xt := ⟨_, rfl⟩
        obtain ⟨xd, hxd⟩ : ∃ xd, x.d.toNat = xd := ⟨_, rfl⟩
        obtain ⟨xm, hxm⟩ : ∃ xm, x.imm = xm := ⟨_, rfl⟩
        rw [hxo] at r3 hbz HAL
        rw [hxs] at r5
        rw [hxt] at r6
        rw [hxd] at r7
        rw [r3] at c0
        rw [r5] at c1
        rw [r6] at c2
        rw [r7] at c3
        rw [hxm] at c4 r8 r9 HAL
        have HLV := Lib.hid (fun wx (hb : Below wr.heap.size wr wx) => leave_any (HL.out.trans hb) (by have := HLEN2.out; omega) xo xs xt xd hbz xm (IntKind.u32.wrap (pc + 4 * (z : Int))) r8 r9 (by show 0 ≤ (pc + 4 * (z : Int)) % 4294967296; omega) (by show (pc + 4 * (z : Int)) % 4294967296 < 4294967296; omega))
        have q1 : IntKind.i64.wrap ((l.length : Int) - 2) = (z : Int) := by rw [show (l.length : Int) - 2 = (z : Int) by omega]; exact IntWalk.i64_in _ ⟨by omega, by omega⟩
        have q2 : IntKind.u32.wrap (z : Int) = (z : Int) := by show (z : Int) % 4294967296 = _; omega
        have q3 : IntKind.u32.wrap (4 * (z : Int)) = 4 * (z : Int) := by show (4 * (z : Int)) % 4294967296 = _; omega
        have hz0 : (0 : Int) ≤ (z : Int) := by omega
        have hz1 : (z : Int) < (l.length : Int) := by omega
        clear r1 r2 r3 r4 r5 r6 r7 r8 r9 r10 hxo hxs hxt hxd hxm i0 i1 i2 i3 i4 hgb h2 hz hzl hbz
        go_wp2_with fail
        go_still_tail 14, (by kernel_rfl)
        change wpList _ _ _ _ _ wr.drew
        have HDR : Hid (Below wr.heap.size wr wr.drew) := Lib.hid (Below.refl _ wr).drew
        generalize wr.drew = wd at *
        clear c0 c1 c2 c3 c4 y0 y1 q1 q2 q3
        go_wp2_with fail
        refine (HLV.out _ HDR.out).mono ?_
        rintro e w6 ⟨rfl, hK6, ov6, hL6⟩
        have HL6 : Hid (LwW w w6 lb pc (l.length - 1) ov6 (lowAll pc l)) := Lib.hid (by rw [HAL.out]; exact hL6)
        have HK6 := Lib.hid ((HK.out.trans (KeptT.of_below HDR.out)).trans hK6)
        clear hK6 hL6
        obtain ⟨oa, on, oc, rfl⟩ := own_slice HL6.out.ops
        obtain ⟨lc0, lc1, lc2, lf1, lf2⟩ := LB.cells HL6.out.blk
        have z0 := KeptT.cell HK6.out HTR3.out (by decide) (by decide) x0
        have HTC6 : Hid (Tri3C w6 (w.heap.size + 1) (.int .u32 0) (.int .i64 0) (.slice none 0 0)) := Lib.hid (HK6.out _ _ _ _ HTC3.out (by decide) (by decide))
        obtain ⟨t0, t1, t2, tf0, tf1, tf2⟩ := Tri3C.cells HTC6.out
        have HZ := Lib.hid (lower_out (HL6.out.trans ((Below.refl _ w6).drew)) (show Tri3C w6.drew _ _ _ _ from HTC6.out) (.int .u32 pc) (.int .i64 (l.length : Int)) (.slice oa on oc))
        go_wp2_with fail
        go_still_tail 8, (by kernel_rfl)
        change wpList _ _ _ _ _ w6.drew
        have s0 : w6.drew.cell? _ = some _ := t0
        have s1 : w6.drew.cell? _ = some _ := t1
        have s2 : w6.drew.cell? _ = some _ := t2
        have sf0 : w6.drew.frozen? _ = false := tf0
        have sf1 : w6.drew.frozen? _ = false := tf1
        have sf2 : w6.drew.frozen? _ = false := tf2
        clear t0 t1 t2 tf0 tf1 tf2 lc0 lc1 lc2 lf1 lf2 z0
        generalize w6.drew = wd at *
        go_wp2
        clear s0 s1 s2 sf0 sf1 sf2
        change bodyPost _ _ _ _ _ (fill3C wd (w.heap.size + 1) (.int .u32 pc) (.int .i64 (l.length : Int)) (.slice oa on oc))
        generalize fill3C wd (w.heap.size + 1) (.int .u32 pc) (.int .i64 (l.length : Int)) (.slice oa on oc) = W9 at *
        obtain ⟨t0, t1, t2, _⟩ := Tri3C.cells HZ.out.2.2
        exact bodyPost_ret (v := .tuple #[.agg #[.int .u32 pc, .int .i64 (l.length : Int), .slice oa on oc], .nilIface]) (by simp [results, Tryz.results6, go_sem, t0, t1, t2]) rfl (HPO.out _ _ HZ.out.1 HZ.out.2.1)
      | false =>
        have HAL : Hid (lowAll pc l = lowUpto pc false l.length l 0 ++ [⟨.out, 0, 0, 0, (pc + 4 * (l.length : Int)) % 4294967296, l.length - 1⟩]) := by
          refine Lib.hid ?_
          unfold lowAll
          rw [HEB.out, if_neg (by decide)]
        have HDO := Lib.hid (do_any HL.out (by have := HLEN2.out; omega) .out 0 0 0 ((pc + 4 * (l.length : Int)) % 4294967296))
        go_wp2_with fail
        refine HDO.out.mono ?_
        rintro e w6 ⟨rfl, hK6, ov6, hL6⟩
        have HL6 : Hid (LwW w w6 lb pc (l.length - 1) ov6 (lowAll pc l)) := Lib.hid (by rw [HAL.out]; exact hL6)
        have HK6 := Lib.hid (HK.out.trans hK6)
        clear hK6 hL6
        obtain ⟨oa, on, oc, rfl⟩ := own_slice HL6.out.ops
        obtain ⟨lc0, lc1, lc2, lf1, lf2⟩ := LB.cells HL6.out.blk
        have z0 := KeptT.cell HK6.out HTR3.out (by decide) (by decide) x0
        have HTC6 : Hid (Tri3C w6 (w.heap.size + 1) (.int .u32 0) (.int .i64 0) (.slice none 0 0)) := Lib.hid (HK6.out _ _ _ _ HTC3.out (by decide) (by decide))
        obtain ⟨t0, t1, t2, tf0, tf1, tf2⟩ := Tri3C.cells HTC6.out
        have HZ := Lib.hid (lower_out (HL6.out.trans ((Below.refl _ w6).drew)) (show Tri3C w6.drew _ _ _ _ from HTC6.out) (.int .u32 pc) (.int .i64 (l.length : Int)) (.slice oa on oc))
        go_wp2_with fail
        go_still_tail 8, (by kernel_rfl)
        change wpList _ _ _ _ _ w6.drew
        have s0 : w6.drew.cell? _ = some _ := t0
        have s1 : w6.drew.cell? _ = some _ := t1
        have s2 : w6.drew.cell? _ = some _ := t2
        have sf0 : w6.drew.frozen? _ = false := tf0
        have sf1 : w6.drew.frozen? _ = false := tf1
        have sf2 : w6.drew.frozen? _ = false := tf2
        clear t0 t1 t2 tf0 tf1 tf2 lc0 lc1 lc2 lf1 lf2 z0
        generalize w6.drew = wd at *
        go_wp2
        clear s0 s1 s2 sf0 sf1 sf2
        change bodyPost _ _ _ _ _ (fill3C wd (w.heap.size + 1) (.int .u32 pc) (.int .i64 (l.length : Int)) (.slice oa on oc))
        generalize fill3C wd (w.heap.size + 1) (.int .u32 pc) (.int .i64 (l.length : Int)) (.slice oa on oc) = W9 at *
        obtain ⟨t0, t1, t2, _⟩ := Tri3C.cells HZ.out.2.2
        exact bodyPost_ret (v := .tuple #[.agg #[.int .u32 pc, .int .i64 (l.length : Int), .slice oa on oc], .nilIface]) (by simp [results, Tryz.results6, go_sem, t0, t1, t2]) rfl (HPO.out _ _ HZ.out.1 HZ.out.2.1)
end Go.Proofs.YtlnefmgiiogcmaaGreatDoor
