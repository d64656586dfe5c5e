/- The walk of (*former).take: one instruction more. Conditions: as the theorem states. -/
import Derived.Test.YtnppegldebocmaaDoorTake
import Derived.Test.YtnppegldebocmaaDoorFormP
namespace Go.Proofs.YtnppegldebocmaaDoor
open Go.RowKit
set_option linter.unusedVariables false
/-- The former's state, its two rows named. -/
structure FE (B : Nat) (w0 wr : World) (fb r : Nat) (most : Int) (k0 : Nat) (l : List InsN) (st : Int) (vi vp : Value) (ps : List Int) : Prop where
  b1 : FB wr fb r most k0 vi vp st
  o1 : wr.ownsRow B 25 5 vi l.length (l.flatMap insC)
  o2 : wr.ownsRow B 3 1 vp ps.length (ps.map (.int .i64))
  below : Below B w0 wr
  lo : B ≤ fb
  base : B ≤ wr.heap.size
theorem FE.trans {B : Nat} {w0 wr w' : World} {fb r : Nat} {most : Int} {k0 : Nat} {l : List InsN} {st : Int} {vi vp : Value} {ps : List Int} (h : FE B w0 wr fb r most k0 l st vi vp ps) (hb : Below wr.heap.size wr w') : FE B w0 w' fb r most k0 l st vi vp ps :=
  ⟨(hb.block fb (Array.getElem?_eq_some_iff.1 h.b1).1).trans h.b1, own_below h.o1 hb, own_below h.o2 hb, h.below.trans (hb.mono h.base), h.lo, Nat.le_trans h.base hb.size⟩
theorem FE.fw {B : Nat} {w0 wr : World} {fb r : Nat} {most : Int} {k0 : Nat} {l : List InsN} {st : Int} {vi vp : Value} {ps : List Int} (h : FE B w0 wr fb r most k0 l st vi vp ps) (q : Nat) (hq : ps.length ≤ q) : FW B w0 wr fb r most k0 l st q :=
  FW.of h.b1 h.o1 h.o2 hq h.below h.lo h.base
theorem FW.fe {B : Nat} {w0 wr : World} {fb r : Nat} {most : Int} {k0 : Nat} {l : List InsN} {st : Int} {q : Nat} (h : FW B w0 wr fb r most k0 l st q) : ∃ vi vp ps, FE B w0 wr fb r most k0 l st vi vp ps ∧ ps.length ≤ q := by
  obtain ⟨vi, vp, ps, h1, h2, h3, h4⟩ := h.blk
  exact ⟨vi, vp, ps, ⟨h1, h2, h3, h.below, h.lo, h.base⟩, h4⟩
theorem Five.ne {w : World} {b k : Nat} {t t2 : TypeId} {a0 a1 a2 a3 a4 : Value} {cs : Array Value} {fr : Nat × Nat} (h : Five w b t a0 a1 a2 a3 a4) (hk : w.heap[k]? = some (.cells cs t2 fr)) (hne : t ≠ t2) : b ≠ k := by
  intro e
  subst e
  unfold Five at h
  rw [h] at hk
  simp only [Option.some.injEq, Obj.cells.injEq] at hk
  exact hne hk.2.1
/-- Behind the pages: an instruction, and its store, are counted. -/
theorem rest_page {B q : Nat} {w0 w2 w4 : World} {fb r ib : Nat} {most : Int} {k0 : Nat} {l : List InsN} {st : Int} {vi vp vp' : Value} {ps : List Int} {p : Int} {a0 a1 a2 a3 a4 : Value} (h : FE B w0 w2 fb r most k0 l st vi vp ps) (hps : ps.length ≤ q) (hF : Five w2 ib 25 a0 a1 a2 a3 a4) (hv : ∀ g, vi.ownBlock = some g → g < ib)
    (hown : w4.ownsRow B 3 1 vp' (ps.length + 1) (ps.map (.int .i64) ++ [.int .i64 p])) (hg : (w2.alloc (.cells #[.int .i64 p] 3)).grownBy w4 vp.ownBlock) :
    FE B w0 (w4.setCell ⟨fb, 4, none⟩ vp') fb r most k0 l st vi vp' (ps ++ [p]) ∧ Five (w4.setCell ⟨fb, 4, none⟩ vp') ib 25 a0 a1 a2 a3 a4 ∧ FB w4 fb r most k0 vi vp st := by
  have hal := (Below.refl w2.heap.size w2).alloc (Nat.le_refl _) (.cells #[.int .i64 p] 3)
  have hE := h.trans hal
  have hFa := hF.below hal hF.lt
  have hfb : w4.heap[fb]? = _ := (hg.block fb (Array.getElem?_eq_some_iff.1 hE.b1).1 (own_ne hE.o2 hE.b1 (by decide))).trans hE.b1
  have hF4 : Five w4 ib 25 a0 a1 a2 a3 a4 := hFa.of_block (hg.block ib hFa.lt (own_ne hE.o2 hFa (by decide)))
  have hi4 : w4.ownsRow B 25 5 vi l.length (l.flatMap insC) := hE.o1.kept hg (by
    rcases hE.o1.2 with ⟨e, _⟩ | ⟨g, cap, cur, e, _, hh, _⟩
    · exact Or.inl (by rw [e]; rfl)
    · refine Or.inr ?_
      rw [e]
      exact own_ne hE.o2 hh (by decide))
  have ownT : ∀ {e : TypeId} {size n : Nat} {v : Value} {xs : List Value}, w4.ownsRow B e size v n xs → e ≠ 75 → (w4.setCell ⟨fb, 4, none⟩ vp').ownsRow B e size v n xs := fun {e size n v xs} h hne =>
    own_block h fun g hg2 => setCell_other w4 fb 4 g vp' (fun e2 => own_ne h hfb hne (by rw [hg2, e2]))
  refine ⟨⟨Joins.block_setCell (i := 4) hfb vp', ownT hi4 (by decide), ?_, (hE.below.grown hg hE.base (fun k hk => (hE.o2.lt k hk).1)).setCell h.lo _, h.lo, by have := hg.size; have := hE.base; simp; omega⟩, hF4.of_block (setCell_other w4 fb 4 ib vp' (hF4.ne hfb (by decide))), hfb⟩
  have := ownT hown (by decide)
  rw [List.length_append, List.map_append]
  exact this
theorem rest_ins {B : Nat} {w0 w2 w4 : World} {fb r ib : Nat} {most : Int} {k0 : Nat} {l : List InsN} {st : Int} {vi vp vi' : Value} {ps : List Int} {i : InsN} {a0 a1 a2 a3 a4 : Value} (h : FE B w0 w2 fb r most k0 l st vi vp ps) (hF : Five w2 ib 25 a0 a1 a2 a3 a4) (hv : ∀ g, vi.ownBlock = some g → g < ib)
    (hown : w4.ownsRow B 25 5 vi' (l.length + 1) (l.flatMap insC ++ insC i)) (hg : w2.grownBy w4 vi.ownBlock) :
    FE B w0 (w4.setCell ⟨fb, 3, none⟩ vi') fb r most k0 (l ++ [i]) st vi' vp ps ∧ Five (w4.setCell ⟨fb, 3, none⟩ vi') ib 25 a0 a1 a2 a3 a4 ∧ FB w4 fb r most k0 vi vp st := by
  have hfb : w4.heap[fb]? = _ := (hg.block fb (Array.getElem?_eq_some_iff.1 h.b1).1 (own_ne h.o1 h.b1 (by decide))).trans h.b1
  have hF4 : Five w4 ib 25 a0 a1 a2 a3 a4 := hF.of_block (hg.block ib hF.lt (fun e => by have := hv ib e.symm; omega))
  have hp4 : w4.ownsRow B 3 1 vp ps.length (ps.map (.int .i64)) := h.o2.kept hg (by
    rcases h.o2.2 with ⟨e, _⟩ | ⟨g, cap, cur, e, _, hh, _⟩
    · exact Or.inl (by rw [e]; rfl)
    · refine Or.inr ?_
      rw [e]
      exact own_ne h.o1 hh (by decide))
  have ownT : ∀ {e : TypeId} {size n : Nat} {v : Value} {xs : List Value}, w4.ownsRow B e size v n xs → e ≠ 75 → (w4.setCell ⟨fb, 3, none⟩ vi').ownsRow B e size v n xs := fun {e size n v xs} h hne =>
    own_block h fun g hg2 => setCell_other w4 fb 3 g vi' (fun e2 => own_ne h hfb hne (by rw [hg2, e2]))
  refine ⟨⟨Joins.block_setCell (i := 3) hfb vi', ?_, ownT hp4 (by decide), (h.below.grown hg h.base (fun k hk => (h.o1.lt k hk).1)).setCell h.lo _, h.lo, by have := hg.size; have := h.base; simp; omega⟩, hF4.of_block (setCell_other w4 fb 3 ib vi' (hF4.ne hfb (by decide))), hfb⟩
  have := ownT hown (by decide)
  rw [List.length_append, List.flatMap_append]
  simpa using this
theorem FE.drew {B : Nat} {w0 wr : World} {fb r : Nat} {most : Int} {k0 : Nat} {l : List InsN} {st : Int} {vi vp : Value} {ps : List Int} (h : FE B w0 wr fb r most k0 l st vi vp ps) : FE B w0 wr.drew fb r most k0 l st vi vp ps := h.trans (Below.refl _ _).drew
theorem five_news (w : World) (a b c d e : Value) (t : TypeId) : ∀ j v, [a, b, c, d, e][j]? = some v → (w.alloc (.cells #[a, b, c, d, e] t)).cell? ((⟨w.heap.size, 0, none⟩ : Addr).add j) = some v := by
  intro j u hj
  match j, hj with
  | 0, hj => simp at hj; subst hj; simp [Addr.add]
  | 1, hj => simp at hj; subst hj; simp [Addr.add]
  | 2, hj => simp at hj; subst hj; simp [Addr.add]
  | 3, hj => simp at hj; subst hj; simp [Addr.add]
  | 4, hj => simp at hj; subst hj; simp [Addr.add]
  | j + 5, hj => simp at hj
theorem insC_one (i : InsN) : ∀ u ∈ insC i, u.oneCell' = true := by
  intro u hu
  simp at hu
  rcases hu with rfl | rfl | rfl | rfl | rfl <;> rfl
set_option maxHeartbeats 2000000 in
theorem take_ok {B q : Nat} {w0 : World} (fb r : Nat) (most : Int) (k0 : Nat) (hk0 : (k0 : Int) < 4096) (l : List InsN) (hl : (l.length : Int) ≤ 30) (st : Int) (hst : 0 ≤ st ∧ st ≤ 100) (hq : (q : Int) ≤ 100) (i : InsN) (hi : i.Fits) (w : World) {vi vp : Value} {ps : List Int} (h : FE B w0 w fb r most k0 l st vi vp ps) (hps : ps.length ≤ q) :
    Calls Tryd.prog 39 #[.pointer (some ⟨fb, 0, none⟩), insV i] w fun e w' => e = .returned (.tuple #[]) ∧ FW B w0 w' fb r most k0 (l ++ [i]) (st + stI i) (q + 1) ∧ (∀ k, k < w.heap.size → k ≠ fb → some k ≠ vi.ownBlock → some k ≠ vp.ownBlock → w'.heap[k]? = w.heap[k]?) := by
  have hal := ((Below.refl w.heap.size w).alloc (Nat.le_refl _) (.cells #[.int .i64 i.op, .int .i64 i.s, .int .i64 i.t, .int .i64 i.d, .int .u32 i.imm] 25))
  have hE := h
  have HV : Hid (∀ g, vi.ownBlock = some g → g < w.heap.size) := fun g hg => (hE.o1.lt g hg).2
  have HPS := Lib.hid hps
  have HPL : Hid (ps.length ≤ 100) := by show _ ≤ _; omega
  have HLL : Hid (l.length ≤ 30) := by show _ ≤ _; omega
  have HE0 := Lib.hid (hE.trans hal)
  have HAL := Lib.hid hal
  have hF := Five.new w (.int .i64 i.op) (.int .i64 i.s) (.int .i64 i.t) (.int .i64 i.d) (.int .u32 i.imm) 25
  have HK := Lib.hid (fun W => kindOf_any i.op W)
  have HN := Lib.hid (fun W (hW : FW B w0 W fb r most k0 l st q) => next_ok fb r most k0 hk0 l hl st W hW)
  obtain ⟨iI, hI1, hI2, hI3, hI4⟩ := info_parts Tryd.infoI
  obtain ⟨iN, hN1, hN2, hN3, hN4⟩ := info_parts Tryd.infoN
  clear h hal hE hps hl
  go_enter Tryd.func39, Tryd.ntmps39
  go_wp2_with fail
  generalize w.alloc (.cells #[.int .i64 i.op, .int .i64 i.s, .int .i64 i.t, .int .i64 i.d, .int .u32 i.imm] 25) = w1 at *
  refine (HN.out _ (HE0.out.fw q HPS.out)).mono ?_
  rintro e w2 ⟨rfl, hb2⟩
  have HE2 := Lib.hid (HE0.out.trans hb2)
  have HO2 : Hid (∀ k, k < w.heap.size → w2.heap[k]? = w.heap[k]?) := fun k hk => (hb2.block k (Nat.lt_of_lt_of_le hk HAL.out.size)).trans (HAL.out.block k hk)
  have hszw : w.heap.size ≤ w2.heap.size := Nat.le_trans HAL.out.size hb2.size
  have HF2 := Lib.hid (hF.below hb2 hF.lt)
  clear HE0 hF hb2 HN
  generalize ((k0 + l.length : Nat) : Int) = pn at *
  obtain ⟨c0, c1, c2, c3, c4, c5, f3, f4, f5⟩ := FB.cells HE2.out.b1
  go_wp2_with fail
  refine (contains_any _ _ HE2.out.o2 (by have := HPL.out; omega)).mono ?_
  rintro e w3 ⟨b, rfl, rfl⟩
  have hszB := HE2.out.base
  cases b
  · have hpl : ps.length ≤ 100 := HPL.out
    go_wp2_with (at_builtin; refine wpList_append_lies _ rfl (.tmp 22) (.tmp 24) 35 rfl B 3 iI (.int .i64 0) 1 8 Tryd.underlying35 hI1 hI2 hI3 hI4 rfl (by decide) _ _ _ rfl (HE2.out.o2.alloc _) _ 1 1 [_] rfl rfl (cell_one_new _ _ _) (fun x hx => by simp at hx; subst hx; rfl) (by decide) (by unfold maxLen; omega) (by omega) (by simp; omega) _ rfl ?_)
    intro g0 cap0 w4 hown4 hgrow4 hat4 hlt4
    generalize (4 * pn).tdiv 256 % 4294967296 = pz at *
    obtain ⟨hE5, hF5, hfb4⟩ := rest_page HE2.out HPS.out HF2.out HV.out hown4 hgrow4
    obtain ⟨a0, a1, a2, a3, a4, a5, b3, b4, b5⟩ := FB.cells hfb4
    have HE5 := Lib.hid hE5
    have HF5 := Lib.hid hF5
    have HQ : Hid ((ps ++ [pz]).length ≤ q + 1) := by have := HPS.out; show _ ≤ _; rw [List.length_append]; simp; omega
    have HO5 : Hid (∀ k, k < w.heap.size → k ≠ fb → some k ≠ vp.ownBlock → (w4.setCell ⟨fb, 4, none⟩ (.slice (some ⟨g0, 0, none⟩) (ps.length + 1) cap0)).heap[k]? = w.heap[k]?) := fun k hk hf hv => (setCell_other w4 fb 4 k _ hf).trans ((hgrow4.block k (by simp; omega) hv).trans ((((Below.refl w2.heap.size w2).alloc (Nat.le_refl _) _).block k (by omega)).trans (HO2.out k hk)))
    have hszw5 : w.heap.size ≤ (w4.setCell ⟨fb, 4, none⟩ (.slice (some ⟨g0, 0, none⟩) (ps.length + 1) cap0)).heap.size := by have := hgrow4.size; simp at this ⊢; omega
    clear hown4 hgrow4 hat4 hlt4 hfb4 c0 c1 c2 c3 c4 c5 f3 f4 f5 hE5 hF5
    have hszB := HE5.out.base
    obtain ⟨c0, c1, c2, c3, c4, c5, f3, f4, f5⟩ := FB.cells HE5.out.b1
    go_wp2_with fail
    clear a0 a1 a2 a3 a4 a5 b3 b4 b5
    generalize w4.setCell ⟨fb, 4, none⟩ (.slice (some ⟨g0, 0, none⟩) (ps.length + 1) cap0) = w5 at *
    obtain ⟨d0, d1, d2, d3, d4⟩ := HF5.out.cells
    have hll := HLL.out
    have hala := (Below.refl w5.heap.size w5).alloc (Nat.le_refl _) (.cells #[.int .i64 i.op, .int .i64 i.s, .int .i64 i.t, .int .i64 i.d, .int .u32 i.imm] 25)
    have HEA := Lib.hid (HE5.out.trans hala)
    have HFA := Lib.hid (HF5.out.below hala HF5.out.lt)
    clear hala
    obtain ⟨p0, p1, p2', p3, p4, p5, r3, r4, r5⟩ := FB.cells HEA.out.b1
    go_wp2_with fail
    go_region_law (refine step_append_lies _ rfl (.tmp 34) (.tmp 36) 34 rfl B 25 iN (.agg #[.int .i64 0, .int .i64 0, .int .i64 0, .int .i64 0, .int .u32 0]) 5 40 Tryd.underlying34 hN1 hN2 hN3 hN4 rfl (by decide) _ l.length (l.flatMap insC) rfl (HE5.out.o1.alloc _) _ 1 1 (insC i) rfl rfl (five_news w5 _ _ _ _ _ _) (insC_one i) (by decide) (by unfold maxLen; omega) (by omega) (by simp; omega) _ rfl ?_; intro g cap w6 hown6 hgrow6 hat6 hlt6; obtain ⟨hE6, hF6, hfb6⟩ := (by first | exact rest_ins HEA.out HFA.out HV.out hown6 hgrow6 | exact rest_ins HEA.out.drew HFA.out HV.out hown6 hgrow6 : FE B w0 (w6.setCell ⟨fb, 3, none⟩ (.slice (some ⟨g, 0, none⟩) (l.length + 1) cap)) fb r most k0 (l ++ [i]) st (.slice (some ⟨g, 0, none⟩) (l.length + 1) cap) (.slice (some ⟨g0, 0, none⟩) (ps.length + 1) cap0) (ps ++ [pz]) ∧ Five (w6.setCell ⟨fb, 3, none⟩ (.slice (some ⟨g, 0, none⟩) (l.length + 1) cap)) w.heap.size 25 (.int .i64 i.op) (.int .i64 i.s) (.int .i64 i.t) (.int .i64 i.d) (.int .u32 i.imm) ∧ FB w6 fb r most k0 vi (.slice (some ⟨g0, 0, none⟩) (ps.length + 1) cap0) st); have HO6 : Hid (∀ k, k < w.heap.size → k ≠ fb → some k ≠ vi.ownBlock → some k ≠ vp.ownBlock → (w6.setCell ⟨fb, 3, none⟩ (.slice (some ⟨g, 0, none⟩) (l.length + 1) cap)).heap[k]? = w.heap[k]?) := (fun k hk hf hv hv2 => (setCell_other w6 fb 3 k _ hf).trans ((hgrow6.block k (by simp; omega) hv).trans ((((Below.refl w5.heap.size w5).alloc (Nat.le_refl _) (.cells #[.int .i64 i.op, .int .i64 i.s, .int .i64 i.t, .int .i64 i.d, .int .u32 i.imm] 25)).block k (by omega)).trans (HO5.out k hk hf hv2)))); have hszw6 : w.heap.size ≤ w6.heap.size := (by have := hgrow6.size; simp at this; omega); have HE6 := Lib.hid hE6; have HF6 := Lib.hid hF6; obtain ⟨a0, a1, a2, a3, a4, a5, b3, b4, b5⟩ := FB.cells hfb6; clear hE6 hF6 hfb6 hown6 hgrow6 hat6 hlt6)
    all_goals
      obtain ⟨x0, x1, x2, x3, x4⟩ := HF6.out.cells
      clear a0 a1 a2 a3 a4 a5 b3 b4 b5
      by_cases hk : kindOfB i.op = storeL
      · have HKS : Hid (∀ W, Calls Tryd.prog 10 #[.int .i64 i.op] W fun e w' => e = .returned (.string ⟨#[115, 116, 111, 114, 101]⟩) ∧ Below W.heap.size W w') := fun W => by
          have := HK.out W
          rw [hk] at this
          exact this
        have HSI : Hid (stI i = 1) := by show stI i = 1; unfold stI; rw [if_pos hk]
        clear hk
        go_wp2_with fail
        refine (HKS.out _).mono ?_
        rintro e w7 ⟨rfl, hb7⟩
        have hE7 : FE B w0 w7 fb r most k0 (l ++ [i]) st (.slice (some ⟨g, 0, none⟩) (l.length + 1) cap) (.slice (some ⟨g0, 0, none⟩) (ps.length + 1) cap0) (ps ++ [pz]) := by first | exact HE6.out.trans hb7 | exact HE6.out.drew.trans hb7
        have HE7 := Lib.hid hE7
        have HO7 : Hid (∀ k, k < w.heap.size → k ≠ fb → some k ≠ vi.ownBlock → some k ≠ vp.ownBlock → w7.heap[k]? = w.heap[k]?) := fun k hk hf hv hv2 => (hb7.block k (by simp; omega)).trans (HO6.out k hk hf hv hv2)
        obtain ⟨y0, y1, y2, y3, y4, y5, z3, z4, z5⟩ := FB.cells hE7.b1
        clear hE7 x0 x1 x2 x3 x4 hb7
        go_wp2
        go_end0
        exact ⟨rfl, by rw [HSI.out]; exact (HE7.out.fw _ HQ.out).count _, fun k hk hf hv hv2 => (setCell_other w7 fb 5 k _ hf).trans (HO7.out k hk hf hv hv2)⟩
      · have hs := kind_not i.op storeL hk
        have HSI : Hid (stI i = 0) := by show stI i = 0; unfold stI; rw [if_neg hk]
        have HKS := HK
        clear hk
        generalize bsl (kindOfB i.op) = ks at *
        unfold storeL at hs
        go_wp2_with fail
        refine (HKS.out _).mono ?_
        rintro e w7 ⟨rfl, hb7⟩
        have hE7 : FE B w0 w7 fb r most k0 (l ++ [i]) st (.slice (some ⟨g, 0, none⟩) (l.length + 1) cap) (.slice (some ⟨g0, 0, none⟩) (ps.length + 1) cap0) (ps ++ [pz]) := by first | exact HE6.out.trans hb7 | exact HE6.out.drew.trans hb7
        have HE7 := Lib.hid hE7
        have HO7 : Hid (∀ k, k < w.heap.size → k ≠ fb → some k ≠ vi.ownBlock → some k ≠ vp.ownBlock → w7.heap[k]? = w.heap[k]?) := fun k hk hf hv hv2 => (hb7.block k (by simp; omega)).trans (HO6.out k hk hf hv hv2)
        clear hE7 x0 x1 x2 x3 x4 hb7
        go_wp2
        go_end0
        exact ⟨rfl, by rw [HSI.out, Int.add_zero]; exact HE7.out.fw _ HQ.out, HO7.out⟩
  · have HQ : Hid (ps.length ≤ q + 1) := by have := HPS.out; show _ ≤ _; omega
    have HO5 : Hid (∀ k, k < w.heap.size → k ≠ fb → some k ≠ vp.ownBlock → w2.heap[k]? = w.heap[k]?) := fun k hk _ _ => HO2.out k hk
    have hszw5 : w.heap.size ≤ w2.heap.size := hszw
    obtain ⟨d0, d1, d2, d3, d4⟩ := HF2.out.cells
    have hll := HLL.out
    have hala := (Below.refl w2.heap.size w2).alloc (Nat.le_refl _) (.cells #[.int .i64 i.op, .int .i64 i.s, .int .i64 i.t, .int .i64 i.d, .int .u32 i.imm] 25)
    have HEA := Lib.hid (HE2.out.trans hala)
    have HFA := Lib.hid (HF2.out.below hala HF2.out.lt)
    clear hala
    obtain ⟨p0, p1, p2', p3, p4, p5, r3, r4, r5⟩ := FB.cells HEA.out.b1
    go_wp2_with fail
    go_region_law (refine step_append_lies _ rfl (.tmp 34) (.tmp 36) 34 rfl B 25 iN (.agg #[.int .i64 0, .int .i64 0, .int .i64 0, .int .i64 0, .int .u32 0]) 5 40 Tryd.underlying34 hN1 hN2 hN3 hN4 rfl (by decide) _ l.length (l.flatMap insC) rfl (HE2.out.o1.alloc _) _ 1 1 (insC i) rfl rfl (five_news w2 _ _ _ _ _ _) (insC_one i) (by decide) (by unfold maxLen; omega) (by omega) (by simp; omega) _ rfl ?_; intro g cap w6 hown6 hgrow6 hat6 hlt6; obtain ⟨hE6, hF6, hfb6⟩ := (by first | exact rest_ins HEA.out HFA.out HV.out hown6 hgrow6 | exact rest_ins HEA.out.drew HFA.out HV.out hown6 hgrow6 : FE B w0 (w6.setCell ⟨fb, 3, none⟩ (.slice (some ⟨g, 0, none⟩) (l.length + 1) cap)) fb r most k0 (l ++ [i]) st (.slice (some ⟨g, 0, none⟩) (l.length + 1) cap) vp ps ∧ Five (w6.setCell ⟨fb, 3, none⟩ (.slice (some ⟨g, 0, none⟩) (l.length + 1) cap)) w.heap.size 25 (.int .i64 i.op) (.int .i64 i.s) (.int .i64 i.t) (.int .i64 i.d) (.int .u32 i.imm) ∧ FB w6 fb r most k0 vi vp st); have HO6 : Hid (∀ k, k < w.heap.size → k ≠ fb → some k ≠ vi.ownBlock → some k ≠ vp.ownBlock → (w6.setCell ⟨fb, 3, none⟩ (.slice (some ⟨g, 0, none⟩) (l.length + 1) cap)).heap[k]? = w.heap[k]?) := (fun k hk hf hv hv2 => (setCell_other w6 fb 3 k _ hf).trans ((hgrow6.block k (by simp; omega) hv).trans ((((Below.refl w2.heap.size w2).alloc (Nat.le_refl _) (.cells #[.int .i64 i.op, .int .i64 i.s, .int .i64 i.t, .int .i64 i.d, .int .u32 i.imm] 25)).block k (by omega)).trans (HO5.out k hk hf hv2)))); have hszw6 : w.heap.size ≤ w6.heap.size := (by have := hgrow6.size; simp at this; omega); have HE6 := Lib.hid hE6; have HF6 := Lib.hid hF6; obtain ⟨a0, a1, a2, a3, a4, a5, b3, b4, b5⟩ := FB.cells hfb6; clear hE6 hF6 hfb6 hown6 hgrow6 hat6 hlt6)
    all_goals
      obtain ⟨x0, x1, x2, x3, x4⟩ := HF6.out.cells
      clear a0 a1 a2 a3 a4 a5 b3 b4 b5
      by_cases hk : kindOfB i.op = storeL
      · have HKS : Hid (∀ W, Calls Tryd.prog 10 #[.int .i64 i.op] W fun e w' => e = .returned (.string ⟨#[115, 116, 111, 114, 101]⟩) ∧ Below W.heap.size W w') := fun W => by
          have := HK.out W
          rw [hk] at this
          exact this
        have HSI : Hid (stI i = 1) := by show stI i = 1; unfold stI; rw [if_pos hk]
        clear hk
        go_wp2_with fail
        refine (HKS.out _).mono ?_
        rintro e w7 ⟨rfl, hb7⟩
        have hE7 : FE B w0 w7 fb r most k0 (l ++ [i]) st (.slice (some ⟨g, 0, none⟩) (l.length + 1) cap) vp ps := by first | exact HE6.out.trans hb7 | exact HE6.out.drew.trans hb7
        have HE7 := Lib.hid hE7
        have HO7 : Hid (∀ k, k < w.heap.size → k ≠ fb → some k ≠ vi.ownBlock → some k ≠ vp.ownBlock → w7.heap[k]? = w.heap[k]?) := fun k hk hf hv hv2 => (hb7.block k (by simp; omega)).trans (HO6.out k hk hf hv hv2)
        obtain ⟨y0, y1, y2, y3, y4, y5, z3, z4, z5⟩ := FB.cells hE7.b1
        clear hE7 x0 x1 x2 x3 x4 hb7
        go_wp2
        go_end0
        exact ⟨rfl, by rw [HSI.out]; exact (HE7.out.fw _ HQ.out).count _, fun k hk hf hv hv2 => (setCell_other w7 fb 5 k _ hf).trans (HO7.out k hk hf hv hv2)⟩
      · have hs := kind_not i.op storeL hk
        have HSI : Hid (stI i = 0) := by show stI i = 0; unfold stI; rw [if_neg hk]
        have HKS := HK
        clear hk
        generalize bsl (kindOfB i.op) = ks at *
        unfold storeL at hs
        go_wp2_with fail
        refine (HKS.out _).mono ?_
        rintro e w7 ⟨rfl, hb7⟩
        have hE7 : FE B w0 w7 fb r most k0 (l ++ [i]) st (.slice (some ⟨g, 0, none⟩) (l.length + 1) cap) vp ps := by first | exact HE6.out.trans hb7 | exact HE6.out.drew.trans hb7
        have HE7 := Lib.hid hE7
        have HO7 : Hid (∀ k, k < w.heap.size → k ≠ fb → some k ≠ vi.ownBlock → some k ≠ vp.ownBlock → w7.heap[k]? = w.heap[k]?) := fun k hk hf hv hv2 => (hb7.block k (by simp; omega)).trans (HO6.out k hk hf hv hv2)
        clear hE7 x0 x1 x2 x3 x4 hb7
        go_wp2
        go_end0
        exact ⟨rfl, by rw [HSI.out, Int.add_zero]; exact HE7.out.fw _ HQ.out, HO7.out⟩
end Go.Proofs.YtnppegldebocmaaDoor
