/- The walk of region.Form. Conditions: as each theorem states. -/
import Derived.Test.YtnppegldebocmaaDoorBranch
namespace Go.Proofs.YtnppegldebocmaaDoor
open Go.RowKit
set_option linter.unusedVariables false
theorem FB.new (w : World) (r : Nat) (most : Int) (k0 : Nat) : FE w.heap.size w (w.alloc (.cells #[.pointer (some ⟨r, 0, none⟩), .int .i64 most, .int .u32 (4 * (k0 : Int)), .slice none 0 0, .slice none 0 0, .int .i64 0] 75)) w.heap.size r most k0 [] 0 (.slice none 0 0) (.slice none 0 0) [] :=
  ⟨heap_alloc_new w _, ⟨rfl, .inl ⟨rfl, rfl⟩⟩, ⟨rfl, .inl ⟨rfl, rfl⟩⟩, (Below.refl _ _).alloc (Nat.le_refl _) _, Nat.le_refl _, by simp⟩
def insLen (w : World) (fb : Nat) : Nat := match w.cell? ⟨fb, 3, none⟩ with | some (.slice _ n _) => n | _ => 0
theorem insLen_fe {B : Nat} {w0 wr : World} {fb r : Nat} {most : Int} {k0 : Nat} {l : List InsN} {st : Int} {q : Nat} (h : FW B w0 wr fb r most k0 l st q) : insLen wr fb = l.length := by
  obtain ⟨vi, vp, ps, hf, _⟩ := h.fe
  obtain ⟨a, cap, rfl⟩ := sliceLen hf.o1
  unfold insLen
  rw [(FB.cells hf.b1).2.2.2.1]
abbrev Rg (w : World) (b : Nat) (v0 v1 v2 : Value) : Prop := w.heap[b]? = some (.cells #[v0, v1, v2] 37 (0, 0))
theorem Rg.cells {w : World} {b : Nat} {v0 v1 v2 : Value} (h : Rg w b v0 v1 v2) :
    w.cell? ⟨b, 0, none⟩ = some v0 ∧ w.cell? ⟨b, 1, none⟩ = some v1 ∧ w.cell? ⟨b, 2, none⟩ = some v2 ∧ w.frozen? ⟨b, 0, none⟩ = false ∧ w.frozen? ⟨b, 1, none⟩ = false ∧ w.frozen? ⟨b, 2, none⟩ = false := by
  unfold Rg at h
  refine ⟨?_, ?_, ?_, ?_, ?_, ?_⟩ <;> simp [World.cell?, World.frozen?, h]
abbrev fill3 (w : World) (b : Nat) (v0 v1 v2 : Value) : World := ((w.setCell ⟨b, 0, none⟩ v0).setCell ⟨b, 1, none⟩ v1).setCell ⟨b, 2, none⟩ v2
theorem Rg.fill {w : World} {b : Nat} {v0 v1 v2 : Value} (h : Rg w b v0 v1 v2) (x0 x1 x2 : Value) : Rg (fill3 w b x0 x1 x2) b x0 x1 x2 :=
  Joins.block_setCell (i := 2) (Joins.block_setCell (i := 1) (Joins.block_setCell (i := 0) h x0) x1) x2
theorem own_low {w : World} {B C : Nat} {e : TypeId} {size : Nat} {v : Value} {n : Nat} {xs : List Value} (h : w.ownsRow B e size v n xs) (hc : C ≤ B) : w.ownsRow C e size v n xs := by
  obtain ⟨hl, h | ⟨g, cap, cur, hv, hg, hh, r⟩⟩ := h
  · exact ⟨hl, .inl h⟩
  · exact ⟨hl, .inr ⟨g, cap, cur, hv, Nat.le_trans hc hg, hh, r⟩⟩
/-- What Form answers: no region (an error), or one. -/
structure FormA (w w' : World) (pc : Int) (en : Nat) (l : List InsN) (vN : Value) (e : Ending) : Prop where
  below : Below w.heap.size w w'
  ans : (en = 0 ∧ e = .returned (.tuple #[.agg #[.int .u32 0, .slice none 0 0, .slice none 0 0], vN])) ∨
    (en ≠ 0 ∧ ∃ vi a2 n2 c2, e = .returned (.tuple #[.agg #[.int .u32 pc, vi, .slice a2 n2 c2], .nilIface]) ∧ w'.ownsRow w.heap.size 25 5 vi en (l.flatMap insC))
theorem form_end {w w0 wz : World} {r : Nat} {most : Int} {k0 : Nat} {L : List InsN} {st : Int} {vi vp : Value} {ps : List Int} (hb : Below w.heap.size w w0) (h : FE (w.heap.size + 1) w0 wz (w.heap.size + 1) r most k0 L st vi vp ps) (x0 x1 x2 : Value) :
    Below w.heap.size w (fill3 wz w.heap.size x0 x1 x2) ∧ (fill3 wz w.heap.size x0 x1 x2).ownsRow w.heap.size 25 5 vi L.length (L.flatMap insC) := by
  refine ⟨(((hb.trans (h.below.mono (Nat.le_succ _))).setCell (Nat.le_refl _) _).setCell (Nat.le_refl _) _).setCell (Nat.le_refl _) _, ?_⟩
  refine own_low (own_block h.o1 fun g hg => ?_) (Nat.le_succ _)
  have := (h.o1.lt g hg).1
  rw [setCell_other _ _ _ _ _ (by omega), setCell_other _ _ _ _ _ (by omega), setCell_other _ _ _ _ _ (by omega)]
theorem endN_stop (W : Nat → Int) (k0 : Nat) (most : Int) (f m : Nat) (h : ¬ ((m : Int) < most ∧ goodS (decide (k0 + m < 4096)) (stN W k0 m) (slotI W (k0 + m)) = true)) : endN W k0 most f m = m := by
  cases f
  · rfl
  · rw [endN, if_neg h]
set_option maxHeartbeats 4000000 in
set_option maxRecDepth 1000000 in
theorem form_some (r bb : Nat) (W : Nat → Int) (most : Int) (hm : 1 ≤ most ∧ most ≤ 24) (k0 : Nat) (hk0 : (k0 : Int) < 4096) (tF : TypeId) (pF vN : Value) (w : World) (hR : RamW w r bb W) (hF : w.cell? ⟨3, 0, none⟩ = some (.iface tF pF)) (hN : w.cell? ⟨4, 0, none⟩ = some vN) :
    Calls Tryd.prog 15 #[.pointer (some ⟨r, 0, none⟩), .int .u32 (4 * (k0 : Int)), .int .i64 most] w fun e w' => FormA w w' (4 * (k0 : Int)) (endN W k0 most 30 0) (slots W k0 (endN W k0 most 30 0)) vN e := by
  have hE := FB.new w r most k0
  obtain ⟨fu, hfu⟩ : ∃ fu : Nat, fu = 30 := ⟨_, rfl⟩
  rw [← hfu]
  generalize hen : endN W k0 most fu 0 = en
  have HEN := Lib.hid hen
  have HFU := Lib.hid hfu
  have HRR := Lib.hid hR
  clear hen hfu hR
  have HM := Lib.hid hm
  have HK0 := Lib.hid hk0
  have HE := Lib.hid hE
  clear hm hk0 hE
  go_enter Tryd.func15, Tryd.ntmps15
  obtain ⟨pc, hpc⟩ : ∃ pc : Int, 4 * (k0 : Int) = pc := ⟨_, rfl⟩
  have h1 : pc < 16384 := by have := HK0.out; omega
  have h0 : 0 ≤ pc := by omega
  have h4 : pc % 4 = 0 := by omega
  have hm1 : 1 ≤ most := HM.out.1
  have hm2 : most ≤ 24 := HM.out.2
  rw [hpc]
  have HPC := Lib.hid hpc
  clear hpc
  go_wp2_with fail
  have HB0 : Below w.heap.size w (w.alloc (.cells #[.int .u32 0, .slice none 0 0, .slice none 0 0] 37)) := (Below.refl _ _).alloc (Nat.le_refl _) _
  have hE0 := FB.new (w.alloc (.cells #[.int .u32 0, .slice none 0 0, .slice none 0 0] 37)) r most k0
  rw [HPC.out, World.size_alloc] at hE0
  have HR1 := Lib.hid (HRR.out.below HB0 HRR.out.lt.1 HRR.out.lt.2)
  have hF1 := (HB0.cell (World.block_lt_of_cell? _ _ hF)).trans hF
  have hN1 := (HB0.cell (World.block_lt_of_cell? _ _ hN)).trans hN
  have hRg : (w.alloc (.cells #[.int .u32 0, .slice none 0 0, .slice none 0 0] 37)).heap[w.heap.size]? = _ := heap_alloc_new w _
  have hsz : (w.alloc (.cells #[.int .u32 0, .slice none 0 0, .slice none 0 0] 37)).heap.size = w.heap.size + 1 := by simp
  have e1 : decide (most < 1) = false := decide_eq_false (by omega)
  have e2 : decide (24 < most) = false := decide_eq_false (by omega)
  have e3 : decide (16384 ≤ pc) = false := decide_eq_false (by omega)
  simp only [e1, e2, e3, Bool.or_false, h4]
  generalize w.alloc (.cells #[.int .u32 0, .slice none 0 0, .slice none 0 0] 37) = w0 at *
  have HW0 := Lib.hid (hE0.fw 0 (Nat.le_refl _))
  generalize w0.alloc _ = w1 at *
  go_loopw [10] (fun v wr => ∃ m : Nat, (m : Int) ≤ most ∧ Hid (endN W k0 most (fu - m) m = en) ∧ Hid (FW (w.heap.size + 1) w0 wr (w.heap.size + 1) r most k0 (slots W k0 m) (stN W k0 m) m)) (fun _ wr => 30 - insLen wr (w.heap.size + 1))
  case atStart => exact ⟨0, by omega, by have := HEN.out; exact this, HW0⟩
  case round =>
    obtain ⟨m, hmm, hen, hfw⟩ := hrel
    obtain ⟨l, hll⟩ : ∃ l, slots W k0 m = l := ⟨_, rfl⟩
    obtain ⟨st, hst⟩ : ∃ st, stN W k0 m = st := ⟨_, rfl⟩
    have hl : l.length = m := by rw [← hll]; exact slots_len W k0 m
    rw [hll, hst] at hfw
    subst hl
    have HLL := Lib.hid hll
    have HST := Lib.hid hst
    have HSR : Hid (0 ≤ st ∧ st ≤ l.length) := by rw [← hst]; exact stN_range ..
    obtain ⟨vi, vp, ps, hfe, hps⟩ := hfw.out.fe
    have HPS := Lib.hid hps
    obtain ⟨a, cap, rfl⟩ := sliceLen hfe.o1
    obtain ⟨a2, cap2, rfl⟩ := sliceLen hfe.o2
    have HFE := Lib.hid hfe
    have HEN2 := hen
    have HFB : Hid (∀ W' : World, Below wr.heap.size wr W' → W'.heap[w.heap.size]? = some (.cells #[.int .u32 0, .slice none 0 0, .slice none 0 0] 37 (0, 0))) := fun W' hW => (hW.block _ (by have := hfe.base; omega)).trans ((hfe.below.block _ (by omega)).trans hRg)
    have HMM := Lib.hid hmm
    obtain ⟨y0, y1, y2, y3, y4, y5, z3, z4, z5⟩ := FB.cells hfe.b1
    clear hll hst hps hfe hfw hen
    by_cases hlt : (l.length : Int) < most
    · obtain ⟨bx, hbx⟩ : ∃ bx, decide (k0 + l.length < 4096) = bx := ⟨_, rfl⟩
      have hk0 := HK0.out
      have hk5 : ((k0 + l.length : Nat) : Int) < 5000 := by omega
      have hN : Calls Tryd.prog 36 #[.pointer (some ⟨w.heap.size + 1, 0, none⟩)] wr fun e w' => e = .returned (.int .u32 (4 * ((k0 + l.length : Nat) : Int))) ∧ Below wr.heap.size wr w' :=
        next_ok (w.heap.size + 1) r most k0 hk0 l (by omega) st wr (HFE.out.fw _ HPS.out)
      have hA : ∀ Q, Below wr.heap.size wr Q → Calls Tryd.prog 35 #[.pointer (some ⟨r, 0, none⟩), .int .u32 (4 * ((k0 + l.length : Nat) : Int))] Q fun e w' => e = .returned (.tuple #[insV (slotI W (k0 + l.length)), .bool bx]) ∧ Below wr.heap.size wr w' := by
        intro Q hQ
        have hbq := HFE.out.below.trans (hQ.mono HFE.out.base)
        have hrl := HR1.out.lt
        rw [hsz] at hrl
        exact (at_any r bb W (k0 + l.length) (by omega) bx hbx tF pF Q (HR1.out.below hbq hrl.1 hrl.2) ((hbq.cell (by rw [← hsz]; exact World.block_lt_of_cell? _ _ hF1)).trans hF1)).mono fun e w' g => ⟨g.1, hQ.trans (g.2.mono hQ.size)⟩
      have HN1 := Lib.hid hN
      have HA1 := Lib.hid hA
      have HK5 := Lib.hid hk5
      have hxf : (slotI W (k0 + l.length)).Fits := by unfold slotI; split <;> exact decZ_fits _
      have HXF := Lib.hid hxf
      clear hN hA hk0 hk5 hxf
      generalize hpn : ((k0 + l.length : Nat) : Int) = pn at *
      generalize hx : slotI W (k0 + l.length) = x at *
      have HX := Lib.hid hx
      have HBX := Lib.hid hbx
      have HPN := Lib.hid hpn
      clear hx hbx hpn
      go_wp2_with fail
      refine HN1.out.mono ?_
      rintro e w2 ⟨rfl, hb2⟩
      go_wp2_with fail
      refine (HA1.out _ hb2).mono ?_
      rintro e w3 ⟨rfl, hb3⟩
      have hF5 := Five.new w3 (.int .i64 x.op) (.int .i64 x.s) (.int .i64 x.t) (.int .i64 x.d) (.int .u32 x.imm) 25
      have hb4 := hb3.alloc hb3.size (.cells #[.int .i64 x.op, .int .i64 x.s, .int .i64 x.t, .int .i64 x.d, .int .u32 x.imm] 25)
      clear hb2 y0 y1 y2 y3 y4 y5 z3 z4 z5
      go_wp2_with fail
      generalize w3.alloc (.cells #[.int .i64 x.op, .int .i64 x.s, .int .i64 x.t, .int .i64 x.d, .int .u32 x.imm] 25) = w4 at *
      generalize w3.heap.size = nb at *
      have HK : Hid (∀ Q, Calls Tryd.prog 10 #[.int .i64 x.op] Q fun e w' => e = .returned (.string (bsl (kindOfB x.op))) ∧ Below Q.heap.size Q w') := fun Q => kindOf_any x.op Q
      cases bx
      · refine (HK.out _).mono ?_
        rintro e w5 ⟨rfl, hb5⟩
        have hb6 := hb4.trans (hb5.mono hb4.size)
        have HEz := Lib.hid (HFE.out.trans hb6)
        have hg : Rg w5 w.heap.size (.int .u32 0) (.slice none 0 0) (.slice none 0 0) := HFB.out w5 hb6
        obtain ⟨y0, y1, y2, y3, y4, y5, z3, z4, z5⟩ := FB.cells HEz.out.b1
        generalize bsl (kindOfB x.op) = ks at *
        clear hb4 hb5 hF5
        obtain ⟨g0, g1, g2, f0, f1, f2⟩ := Rg.cells hg
        have hnn : w5.cell? ⟨4, 0, none⟩ = some vN := (HEz.out.below.cell (by rw [← hsz]; exact World.block_lt_of_cell? _ _ hN1)).trans hN1
        have HLE : Hid (l.length = en) := by
          have := HEN2.out
          rwa [endN_stop _ _ _ _ _ (by rw [HBX.out]; simp [goodS])] at this
        by_cases hz : l.length = 0
        · have hz2 : ((l.length : Int) == 0) = true := by rw [hz]; rfl
          have hen0 : Hid (en = 0) := by show _ = _; rw [← HLE.out]; exact hz
          have HG := Rg.fill hg (.int .u32 0) (.slice none 0 0) (.slice none 0 0)
          have HFN := (form_end HB0 HEz.out (.int .u32 0) (.slice none 0 0) (.slice none 0 0)).1
          go_wp2_with fail
          have hnn2 : ∀ v0 v1 v2, (fill3 w5 w.heap.size v0 v1 v2).cell? ⟨4, 0, none⟩ = some vN := fun v0 v1 v2 => by
            have hlt := World.block_lt_of_cell? _ _ hN
            simp only [World.cell?] at hnn ⊢
            rw [setCell_other _ _ _ _ _ (Nat.ne_of_lt hlt), setCell_other _ _ _ _ _ (Nat.ne_of_lt hlt), setCell_other _ _ _ _ _ (Nat.ne_of_lt hlt)]
            exact hnn
          go_region_with fail
          all_goals
            go_wp2
            first
            | change bodyPost _ _ _ _ _ (fill3 w5 w.heap.size (.int .u32 0) (.slice none 0 0) (.slice none 0 0))
            | change bodyPost _ _ _ _ _ (World.drew (fill3 w5 w.heap.size (.int .u32 0) (.slice none 0 0) (.slice none 0 0)))
            clear g0 g1 g2 f0 f1 f2
            generalize fill3 w5 w.heap.size (.int .u32 0) (.slice none 0 0) (.slice none 0 0) = W5 at *
            obtain ⟨q0, q1, q2, _⟩ := Rg.cells HG
            first
            | exact bodyPost_ret (v := .tuple #[.agg #[.int .u32 0, .slice none 0 0, .slice none 0 0], vN]) (by simp [results, Tryd.results15, go_sem, q0, q1, q2]) rfl ⟨HFN, Or.inl ⟨hen0.out, rfl⟩⟩
            | exact bodyPost_ret (v := .tuple #[.agg #[.int .u32 0, .slice none 0 0, .slice none 0 0], vN]) (by simp [results, Tryd.results15, go_sem, q0, q1, q2]) rfl ⟨HFN.drew, Or.inl ⟨hen0.out, rfl⟩⟩
        · have hz2 : ((l.length : Int) == 0) = false := beq_eq_false_iff_ne.2 (by omega)
          have hen0 : Hid (en ≠ 0) := by show _ ≠ _; rw [← HLE.out]; exact hz
          have HG := Rg.fill hg (.int .u32 (4 * (k0 : Int))) (.slice a l.length cap) (.slice a2 ps.length cap2)
          have HFN := form_end HB0 HEz.out (.int .u32 (4 * (k0 : Int))) (.slice a l.length cap) (.slice a2 ps.length cap2)
          go_wp2_with fail
          change bodyPost _ _ _ _ _ (fill3 w5 w.heap.size (.int .u32 (4 * (k0 : Int))) (.slice a l.length cap) (.slice a2 ps.length cap2))
          clear g0 g1 g2 f0 f1 f2
          generalize fill3 w5 w.heap.size (.int .u32 (4 * (k0 : Int))) (.slice a l.length cap) (.slice a2 ps.length cap2) = W5 at *
          obtain ⟨q0, q1, q2, _⟩ := Rg.cells HG
          exact bodyPost_ret (v := .tuple #[.agg #[.int .u32 (4 * (k0 : Int)), .slice a l.length cap, .slice a2 ps.length cap2], .nilIface]) (by simp [results, Tryd.results15, go_sem, q0, q1, q2]) rfl ⟨HFN.1, Or.inr ⟨hen0.out, _, _, _, _, by rw [HPC.out], by rw [← HLE.out, HLL.out]; exact HFN.2⟩⟩
      · by_cases hkt : kindOfB x.op = trapL
        · have HK2 : Hid (∀ Q, Calls Tryd.prog 10 #[.int .i64 x.op] Q fun e w' => e = .returned (.string ⟨#[116, 114, 97, 112]⟩) ∧ Below Q.heap.size Q w') := fun Q => by
            have := HK.out Q
            rw [hkt] at this
            exact this
          have HLE : Hid (l.length = en) := by
            have := HEN2.out
            rwa [endN_stop _ _ _ _ _ (by rw [HX.out]; simp [goodS, hkt])] at this
          clear hkt
          refine (HK2.out _).mono ?_
          rintro e w5 ⟨rfl, hb5⟩
          have hb6 := hb4.trans (hb5.mono hb4.size)
          have HEz := Lib.hid (HFE.out.trans hb6)
          have hg : Rg w5 w.heap.size (.int .u32 0) (.slice none 0 0) (.slice none 0 0) := HFB.out w5 hb6
          obtain ⟨y0, y1, y2, y3, y4, y5, z3, z4, z5⟩ := FB.cells HEz.out.b1
          clear hb4 hb5 hF5
          obtain ⟨g0, g1, g2, f0, f1, f2⟩ := Rg.cells hg
          have hnn : w5.cell? ⟨4, 0, none⟩ = some vN := (HEz.out.below.cell (by rw [← hsz]; exact World.block_lt_of_cell? _ _ hN1)).trans hN1
          by_cases hz : l.length = 0
          · have hz2 : ((l.length : Int) == 0) = true := by rw [hz]; rfl
            have hen0 : Hid (en = 0) := by show _ = _; rw [← HLE.out]; exact hz
            have HG := Rg.fill hg (.int .u32 0) (.slice none 0 0) (.slice none 0 0)
            have HFN := (form_end HB0 HEz.out (.int .u32 0) (.slice none 0 0) (.slice none 0 0)).1
            go_wp2_with fail
            have hnn2 : ∀ v0 v1 v2, (fill3 w5 w.heap.size v0 v1 v2).cell? ⟨4, 0, none⟩ = some vN := fun v0 v1 v2 => by
              have hlt := World.block_lt_of_cell? _ _ hN
              simp only [World.cell?] at hnn ⊢
              rw [setCell_other _ _ _ _ _ (Nat.ne_of_lt hlt), setCell_other _ _ _ _ _ (Nat.ne_of_lt hlt), setCell_other _ _ _ _ _ (Nat.ne_of_lt hlt)]
              exact hnn
            go_region_with fail
            all_goals
              go_wp2
              first
              | change bodyPost _ _ _ _ _ (fill3 w5 w.heap.size (.int .u32 0) (.slice none 0 0) (.slice none 0 0))
              | change bodyPost _ _ _ _ _ (World.drew (fill3 w5 w.heap.size (.int .u32 0) (.slice none 0 0) (.slice none 0 0)))
              clear g0 g1 g2 f0 f1 f2
              generalize fill3 w5 w.heap.size (.int .u32 0) (.slice none 0 0) (.slice none 0 0) = W5 at *
              obtain ⟨q0, q1, q2, _⟩ := Rg.cells HG
              first
              | exact bodyPost_ret (v := .tuple #[.agg #[.int .u32 0, .slice none 0 0, .slice none 0 0], vN]) (by simp [results, Tryd.results15, go_sem, q0, q1, q2]) rfl ⟨HFN, Or.inl ⟨hen0.out, rfl⟩⟩
              | exact bodyPost_ret (v := .tuple #[.agg #[.int .u32 0, .slice none 0 0, .slice none 0 0], vN]) (by simp [results, Tryd.results15, go_sem, q0, q1, q2]) rfl ⟨HFN.drew, Or.inl ⟨hen0.out, rfl⟩⟩
          · have hz2 : ((l.length : Int) == 0) = false := beq_eq_false_iff_ne.2 (by omega)
            have hen0 : Hid (en ≠ 0) := by show _ ≠ _; rw [← HLE.out]; exact hz
            have HG := Rg.fill hg (.int .u32 (4 * (k0 : Int))) (.slice a l.length cap) (.slice a2 ps.length cap2)
            have HFN := form_end HB0 HEz.out (.int .u32 (4 * (k0 : Int))) (.slice a l.length cap) (.slice a2 ps.length cap2)
            go_wp2_with fail
            change bodyPost _ _ _ _ _ (fill3 w5 w.heap.size (.int .u32 (4 * (k0 : Int))) (.slice a l.length cap) (.slice a2 ps.length cap2))
            clear g0 g1 g2 f0 f1 f2
            generalize fill3 w5 w.heap.size (.int .u32 (4 * (k0 : Int))) (.slice a l.length cap) (.slice a2 ps.length cap2) = W5 at *
            obtain ⟨q0, q1, q2, _⟩ := Rg.cells HG
            exact bodyPost_ret (v := .tuple #[.agg #[.int .u32 (4 * (k0 : Int)), .slice a l.length cap, .slice a2 ps.length cap2], .nilIface]) (by simp [results, Tryd.results15, go_sem, q0, q1, q2]) rfl ⟨HFN.1, Or.inr ⟨hen0.out, _, _, _, _, by rw [HPC.out], by rw [← HLE.out, HLL.out]; exact HFN.2⟩⟩
        · have hstp := kind_not x.op trapL hkt
          obtain ⟨bf, hbf⟩ : ∃ bf, (decide (kindOfB x.op = storeL) && decide (8 ≤ st)) = bf := ⟨_, rfl⟩
          have HFL : Hid (∀ Q, FE (w.heap.size + 1) w0 Q (w.heap.size + 1) r most k0 l st (.slice a l.length cap) (.slice a2 ps.length cap2) ps → Calls Tryd.prog 37 #[.pointer (some ⟨w.heap.size + 1, 0, none⟩), insV x] Q fun e w' => e = .returned (.bool bf) ∧ Below Q.heap.size Q w') := fun Q hQ => by
            by_cases hks : kindOfB x.op = storeL
            · refine full_st (w.heap.size + 1) r most k0 l st x bf ?_ hks Q (hQ.fw _ HPS.out)
              rw [← hbf, decide_eq_true hks]
              by_cases h8 : 8 ≤ st
              · exact Or.inl ⟨by simp [h8], h8⟩
              · exact Or.inr ⟨by simp [h8], by omega⟩
            · rw [← hbf, decide_eq_false hks]
              exact full_no (w.heap.size + 1) r most k0 l st x hks Q (hQ.fw _ HPS.out)
          have HGS : Hid (goodS (decide (k0 + l.length < 4096)) (stN W k0 l.length) (slotI W (k0 + l.length)) = !bf) := by
            show _ = _
            rw [HX.out, HBX.out, HST.out]
            simp [goodS, hkt, hbf]
          obtain ⟨bb2, hbb⟩ : ∃ bb2, decide (kindOfB x.op = branchL) = bb2 := ⟨_, rfl⟩
          have HBB := Lib.hid hbb
          have hkb2 : ((bsl (kindOfB x.op)).toList == branchL) = bb2 := by
            rw [← hbb, bsl_list]
            by_cases hq : kindOfB x.op = branchL
            · rw [hq]; simp
            · rw [decide_eq_false hq]; exact beq_eq_false_iff_ne.2 hq
          clear hkt hbf hbb
          refine (HK.out _).mono ?_
          rintro e w5 ⟨rfl, hb5⟩
          have hb6 := hb4.trans (hb5.mono hb4.size)
          have HE5 := Lib.hid (HFE.out.trans hb6)
          have HF5 := Lib.hid (hF5.below hb5 hF5.lt)
          have HB6 := Lib.hid hb6
          obtain ⟨y0, y1, y2, y3, y4, y5, z3, z4, z5⟩ := FB.cells HE5.out.b1
          obtain ⟨x0, x1, x2, x3, x4⟩ := HF5.out.cells
          generalize bsl (kindOfB x.op) = ks at *
          unfold branchL at hkb2
          unfold trapL at hstp
          clear hb4 hb5 hF5 hb6
          cases bf
          · go_wp2_with fail
            refine (HFL.out _ HE5.out).mono ?_
            rintro e w6 ⟨rfl, hb7⟩
            have HE6 := Lib.hid (HE5.out.trans hb7)
            have HF6 := Lib.hid (HF5.out.below hb7 HF5.out.lt)
            have HB7 := Lib.hid (HB6.out.trans (hb7.mono HB6.out.size))
            clear hb7 x0 x1 x2 x3 x4 y0 y1 y2 y3 y4 y5 z3 z4 z5
            obtain ⟨x0, x1, x2, x3, x4⟩ := HF6.out.cells
            have hfs : fu - l.length = (fu - (l.length + 1)) + 1 := by have := HFU.out; omega
            have HEN3 : Hid (endN W k0 most ((fu - (l.length + 1)) + 1) l.length = en) := by
              have := HEN2.out
              rw [hfs] at this
              exact this
            clear hfs
            cases bb2
            · go_wp2_with fail
              refine (take_ok (w.heap.size + 1) r most k0 HK0.out l (by omega) st (by have := HSR.out; omega) (q := l.length) (by omega) x HXF.out _ (by first | exact HE6.out | exact HE6.out.drew) HPS.out).mono ?_
              rintro e w8 ⟨rfl, hfw8, _⟩
              have HW8 := Lib.hid hfw8
              clear hfw8 x0 x1 x2 x3 x4
              go_wp2
              go_roundw
              case rel =>
                refine ⟨l.length + 1, by omega, ?_, ?_⟩
                · show _ = _
                  have := HEN3.out
                  rw [endN, if_pos ⟨hlt, HGS.out⟩, if_neg (by rw [HX.out]; exact of_decide_eq_false HBB.out)] at this
                  exact this
                · show FW _ _ _ _ _ _ _ _ _ _
                  have := HW8.out
                  rw [slots_succ, HLL.out, HX.out, stN, HST.out, HX.out]
                  exact this
              case measure =>
                have h1 := insLen_fe HW8.out
                have h2 := insLen_fe (HFE.out.fw _ HPS.out)
                rw [List.length_append] at h1
                simp only [List.length_cons, List.length_nil] at h1
                simp only [h1, h2]
                omega
            · go_wp2_with fail
              have hbw : Below (w.heap.size + 1) w0 w6 := HFE.out.below.trans (HB7.out.mono HFE.out.base)
              have hrl := HR1.out.lt
              rw [hsz] at hrl
              refine (branch_ok (w.heap.size + 1) r bb W most k0 HK0.out l (by omega) st (by have := HSR.out; omega) (q := l.length) (by omega) x HXF.out tF pF _ ((by first | exact HE6.out | exact HE6.out.drew : FE (w.heap.size + 1) w0 _ (w.heap.size + 1) r most k0 l st (.slice a l.length cap) (.slice a2 ps.length cap2) ps).fw _ HPS.out) (HR1.out.below hbw hrl.1 hrl.2) ((hbw.cell (by rw [← hsz]; exact World.block_lt_of_cell? _ _ hF1)).trans hF1)).mono ?_
              rintro e w8 ⟨rfl, hfw8⟩
              clear hbw hrl x0 x1 x2 x3 x4
              have hLz : ∃ (L : List InsN) (st2 : Int), FW (w.heap.size + 1) w0 w8 (w.heap.size + 1) r most k0 L st2 (l.length + 2) ∧ L.length = en ∧ slots W k0 L.length = L := by
                have := HEN3.out
                rw [endN, if_pos ⟨hlt, HGS.out⟩, if_pos (by rw [HX.out]; exact of_decide_eq_true HBB.out), HST.out] at this
                by_cases hf : fitsB (decide (k0 + l.length + 1 < 4096)) most l.length st (slotI W (k0 + l.length + 1)) = true
                · rw [if_pos hf] at this
                  rw [if_pos hf, if_pos hf] at hfw8
                  refine ⟨_, _, hfw8, ?_, ?_⟩
                  · rw [← this]; simp
                  · have e : (l ++ [x] ++ [slotI W (k0 + l.length + 1)]).length = l.length + 1 + 1 := by simp
                    rw [e, slots_succ, slots_succ, HLL.out, HX.out, Nat.add_assoc]
                · rw [if_neg hf] at this
                  rw [if_neg hf, if_neg hf] at hfw8
                  exact ⟨_, _, hfw8, this, HLL.out⟩
              obtain ⟨L, st2, hfw9, hLe, hLs⟩ := hLz
              obtain ⟨vi9, vp9, ps9, hfe9, hps9⟩ := hfw9.fe
              obtain ⟨a9, cap9, rfl⟩ := sliceLen hfe9.o1
              obtain ⟨a8, cap8, rfl⟩ := sliceLen hfe9.o2
              have HEz := Lib.hid hfe9
              have HLE : Hid (L.length = en) := hLe
              have HLL9 := Lib.hid hLs
              have hg : Rg w8 w.heap.size (.int .u32 0) (.slice none 0 0) (.slice none 0 0) := (hfe9.below.block _ (by omega)).trans hRg
              have hnn : w8.cell? ⟨4, 0, none⟩ = some vN := (hfe9.below.cell (by rw [← hsz]; exact World.block_lt_of_cell? _ _ hN1)).trans hN1
              obtain ⟨y0, y1, y2, y3, y4, y5, z3, z4, z5⟩ := FB.cells hfe9.b1
              obtain ⟨g0, g1, g2, f0, f1, f2⟩ := Rg.cells hg
              clear hfw8 hfw9 hLe hLs hfe9 hps9
              by_cases hz : L.length = 0
              · have hz2 : ((L.length : Int) == 0) = true := by rw [hz]; rfl
                have hen0 : Hid (en = 0) := by show _ = _; rw [← HLE.out]; exact hz
                have HG := Rg.fill hg (.int .u32 0) (.slice none 0 0) (.slice none 0 0)
                have HFN := (form_end HB0 HEz.out (.int .u32 0) (.slice none 0 0) (.slice none 0 0)).1
                go_wp2_with fail
                have hnn2 : ∀ v0 v1 v2, (fill3 w8 w.heap.size v0 v1 v2).cell? ⟨4, 0, none⟩ = some vN := fun v0 v1 v2 => by
                  have hlt := World.block_lt_of_cell? _ _ hN
                  simp only [World.cell?] at hnn ⊢
                  rw [setCell_other _ _ _ _ _ (Nat.ne_of_lt hlt), setCell_other _ _ _ _ _ (Nat.ne_of_lt hlt), setCell_other _ _ _ _ _ (Nat.ne_of_lt hlt)]
                  exact hnn
                go_region_with fail
                all_goals
                  go_wp2
                  first
                  | change bodyPost _ _ _ _ _ (fill3 w8 w.heap.size (.int .u32 0) (.slice none 0 0) (.slice none 0 0))
                  | change bodyPost _ _ _ _ _ (World.drew (fill3 w8 w.heap.size (.int .u32 0) (.slice none 0 0) (.slice none 0 0)))
                  clear g0 g1 g2 f0 f1 f2
                  generalize fill3 w8 w.heap.size (.int .u32 0) (.slice none 0 0) (.slice none 0 0) = W5 at *
                  obtain ⟨q0, q1, q2, _⟩ := Rg.cells HG
                  first
                  | exact bodyPost_ret (v := .tuple #[.agg #[.int .u32 0, .slice none 0 0, .slice none 0 0], vN]) (by simp [results, Tryd.results15, go_sem, q0, q1, q2]) rfl ⟨HFN, Or.inl ⟨hen0.out, rfl⟩⟩
                  | exact bodyPost_ret (v := .tuple #[.agg #[.int .u32 0, .slice none 0 0, .slice none 0 0], vN]) (by simp [results, Tryd.results15, go_sem, q0, q1, q2]) rfl ⟨HFN.drew, Or.inl ⟨hen0.out, rfl⟩⟩
              · have hz2 : ((L.length : Int) == 0) = false := beq_eq_false_iff_ne.2 (by omega)
                have hen0 : Hid (en ≠ 0) := by show _ ≠ _; rw [← HLE.out]; exact hz
                have HG := Rg.fill hg (.int .u32 (4 * (k0 : Int))) (.slice a9 L.length cap9) (.slice a8 ps9.length cap8)
                have HFN := form_end HB0 HEz.out (.int .u32 (4 * (k0 : Int))) (.slice a9 L.length cap9) (.slice a8 ps9.length cap8)
                go_wp2_with fail
                change bodyPost _ _ _ _ _ (fill3 w8 w.heap.size (.int .u32 (4 * (k0 : Int))) (.slice a9 L.length cap9) (.slice a8 ps9.length cap8))
                clear g0 g1 g2 f0 f1 f2
                generalize fill3 w8 w.heap.size (.int .u32 (4 * (k0 : Int))) (.slice a9 L.length cap9) (.slice a8 ps9.length cap8) = W5 at *
                obtain ⟨q0, q1, q2, _⟩ := Rg.cells HG
                exact bodyPost_ret (v := .tuple #[.agg #[.int .u32 (4 * (k0 : Int)), .slice a9 L.length cap9, .slice a8 ps9.length cap8], .nilIface]) (by simp [results, Tryd.results15, go_sem, q0, q1, q2]) rfl ⟨HFN.1, Or.inr ⟨hen0.out, _, _, _, _, by rw [HPC.out], by rw [← HLE.out, HLL9.out]; exact HFN.2⟩⟩
          · go_wp2_with fail
            refine (HFL.out _ HE5.out).mono ?_
            rintro e w6 ⟨rfl, hb7⟩
            have HEz := Lib.hid (HE5.out.trans hb7)
            have HB7 := Lib.hid (HB6.out.trans (hb7.mono HB6.out.size))
            have HLE : Hid (l.length = en) := by
              have := HEN2.out
              rwa [endN_stop _ _ _ _ _ (by rw [HGS.out]; simp)] at this
            clear hb7 x0 x1 x2 x3 x4 y0 y1 y2 y3 y4 y5 z3 z4 z5
            have hg : Rg w6 w.heap.size (.int .u32 0) (.slice none 0 0) (.slice none 0 0) := HFB.out w6 HB7.out
            obtain ⟨y0, y1, y2, y3, y4, y5, z3, z4, z5⟩ := FB.cells HEz.out.b1
            obtain ⟨g0, g1, g2, f0, f1, f2⟩ := Rg.cells hg
            have hnn : w6.cell? ⟨4, 0, none⟩ = some vN := (HEz.out.below.cell (by rw [← hsz]; exact World.block_lt_of_cell? _ _ hN1)).trans hN1
            by_cases hz : l.length = 0
            · have hz2 : ((l.length : Int) == 0) = true := by rw [hz]; rfl
              have hen0 : Hid (en = 0) := by show _ = _; rw [← HLE.out]; exact hz
              have HG := Rg.fill hg (.int .u32 0) (.slice none 0 0) (.slice none 0 0)
              have HFN := (form_end HB0 HEz.out (.int .u32 0) (.slice none 0 0) (.slice none 0 0)).1
              go_wp2_with fail
              have hnn2 : ∀ v0 v1 v2, (fill3 w6 w.heap.size v0 v1 v2).cell? ⟨4, 0, none⟩ = some vN := fun v0 v1 v2 => by
                have hlt := World.block_lt_of_cell? _ _ hN
                simp only [World.cell?] at hnn ⊢
                rw [setCell_other _ _ _ _ _ (Nat.ne_of_lt hlt), setCell_other _ _ _ _ _ (Nat.ne_of_lt hlt), setCell_other _ _ _ _ _ (Nat.ne_of_lt hlt)]
                exact hnn
              go_region_with fail
              all_goals
                go_wp2
                first
                | change bodyPost _ _ _ _ _ (fill3 w6 w.heap.size (.int .u32 0) (.slice none 0 0) (.slice none 0 0))
                | change bodyPost _ _ _ _ _ (World.drew (fill3 w6 w.heap.size (.int .u32 0) (.slice none 0 0) (.slice none 0 0)))
                clear g0 g1 g2 f0 f1 f2
                generalize fill3 w6 w.heap.size (.int .u32 0) (.slice none 0 0) (.slice none 0 0) = W5 at *
                obtain ⟨q0, q1, q2, _⟩ := Rg.cells HG
                first
                | exact bodyPost_ret (v := .tuple #[.agg #[.int .u32 0, .slice none 0 0, .slice none 0 0], vN]) (by simp [results, Tryd.results15, go_sem, q0, q1, q2]) rfl ⟨HFN, Or.inl ⟨hen0.out, rfl⟩⟩
                | exact bodyPost_ret (v := .tuple #[.agg #[.int .u32 0, .slice none 0 0, .slice none 0 0], vN]) (by simp [results, Tryd.results15, go_sem, q0, q1, q2]) rfl ⟨HFN.drew, Or.inl ⟨hen0.out, rfl⟩⟩
            · have hz2 : ((l.length : Int) == 0) = false := beq_eq_false_iff_ne.2 (by omega)
              have hen0 : Hid (en ≠ 0) := by show _ ≠ _; rw [← HLE.out]; exact hz
              have HG := Rg.fill hg (.int .u32 (4 * (k0 : Int))) (.slice a l.length cap) (.slice a2 ps.length cap2)
              have HFN := form_end HB0 HEz.out (.int .u32 (4 * (k0 : Int))) (.slice a l.length cap) (.slice a2 ps.length cap2)
              go_wp2_with fail
              change bodyPost _ _ _ _ _ (fill3 w6 w.heap.size (.int .u32 (4 * (k0 : Int))) (.slice a l.length cap) (.slice a2 ps.length cap2))
              clear g0 g1 g2 f0 f1 f2
              generalize fill3 w6 w.heap.size (.int .u32 (4 * (k0 : Int))) (.slice a l.length cap) (.slice a2 ps.length cap2) = W5 at *
              obtain ⟨q0, q1, q2, _⟩ := Rg.cells HG
              exact bodyPost_ret (v := .tuple #[.agg #[.int .u32 (4 * (k0 : Int)), .slice a l.length cap, .slice a2 ps.length cap2], .nilIface]) (by simp [results, Tryd.results15, go_sem, q0, q1, q2]) rfl ⟨HFN.1, Or.inr ⟨hen0.out, _, _, _, _, by rw [HPC.out], by rw [← HLE.out, HLL.out]; exact HFN.2⟩⟩
    · have HEz := HFE
      have hbw := Below.refl wr.heap.size wr
      have HLE : Hid (l.length = en) := by
        have := HEN2.out
        rwa [endN_stop _ _ _ _ _ (fun h => hlt h.1)] at this
      have hg : Rg wr w.heap.size (.int .u32 0) (.slice none 0 0) (.slice none 0 0) := HFB.out wr hbw
      obtain ⟨g0, g1, g2, f0, f1, f2⟩ := Rg.cells hg
      have hnn : wr.cell? ⟨4, 0, none⟩ = some vN := (HEz.out.below.cell (by rw [← hsz]; exact World.block_lt_of_cell? _ _ hN1)).trans hN1
      clear hbw
      by_cases hz : l.length = 0
      · exfalso; omega
      · have hz2 : ((l.length : Int) == 0) = false := beq_eq_false_iff_ne.2 (by omega)
        have hen0 : Hid (en ≠ 0) := by show _ ≠ _; rw [← HLE.out]; exact hz
        have HG := Rg.fill hg (.int .u32 (4 * (k0 : Int))) (.slice a l.length cap) (.slice a2 ps.length cap2)
        have HFN := form_end HB0 HEz.out (.int .u32 (4 * (k0 : Int))) (.slice a l.length cap) (.slice a2 ps.length cap2)
        go_wp2_with fail
        change bodyPost _ _ _ _ _ (fill3 wr w.heap.size (.int .u32 (4 * (k0 : Int))) (.slice a l.length cap) (.slice a2 ps.length cap2))
        clear g0 g1 g2 f0 f1 f2
        generalize fill3 wr w.heap.size (.int .u32 (4 * (k0 : Int))) (.slice a l.length cap) (.slice a2 ps.length cap2) = W5 at *
        obtain ⟨q0, q1, q2, _⟩ := Rg.cells HG
        exact bodyPost_ret (v := .tuple #[.agg #[.int .u32 (4 * (k0 : Int)), .slice a l.length cap, .slice a2 ps.length cap2], .nilIface]) (by simp [results, Tryd.results15, go_sem, q0, q1, q2]) rfl ⟨HFN.1, Or.inr ⟨hen0.out, _, _, _, _, by rw [HPC.out], by rw [← HLE.out, HLL.out]; exact HFN.2⟩⟩
end Go.Proofs.YtnppegldebocmaaDoor
