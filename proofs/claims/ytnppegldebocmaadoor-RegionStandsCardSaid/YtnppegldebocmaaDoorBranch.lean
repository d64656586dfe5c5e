/- The walk of (*former).branch. Conditions: as the theorem states. -/
import Derived.Test.YtnppegldebocmaaDoorTakeW
namespace Go.Proofs.YtnppegldebocmaaDoor
open Go.RowKit
set_option linter.unusedVariables false
/-- What the walk of branch knows of a world. -/
structure BR (B : Nat) (w0 wr : World) (fb r bb ib : Nat) (W : Nat → Int) (most : Int) (k0 : Nat) (l : List InsN) (st : Int) (vi vp : Value) (ps : List Int) (i : InsN) (tF : TypeId) (pF : Value) : Prop where
  fe : FE B w0 wr fb r most k0 l st vi vp ps
  ram : RamW wr r bb W
  ins : Five wr ib 25 (.int .i64 i.op) (.int .i64 i.s) (.int .i64 i.t) (.int .i64 i.d) (.int .u32 i.imm)
  far : wr.cell? ⟨3, 0, none⟩ = some (.iface tF pF)
theorem BR.trans {B : Nat} {w0 wr w' : World} {fb r bb ib : Nat} {W : Nat → Int} {most : Int} {k0 : Nat} {l : List InsN} {st : Int} {vi vp : Value} {ps : List Int} {i : InsN} {tF : TypeId} {pF : Value} (h : BR B w0 wr fb r bb ib W most k0 l st vi vp ps i tF pF) (hb : Below wr.heap.size wr w') : BR B w0 w' fb r bb ib W most k0 l st vi vp ps i tF pF :=
  ⟨h.fe.trans hb, h.ram.below hb h.ram.lt.1 h.ram.lt.2, h.ins.below hb h.ins.lt, (hb.cell (World.block_lt_of_cell? _ _ h.far)).trans h.far⟩
theorem BR.drew {B : Nat} {w0 wr : World} {fb r bb ib : Nat} {W : Nat → Int} {most : Int} {k0 : Nat} {l : List InsN} {st : Int} {vi vp : Value} {ps : List Int} {i : InsN} {tF : TypeId} {pF : Value} (h : BR B w0 wr fb r bb ib W most k0 l st vi vp ps i tF pF) : BR B w0 wr.drew fb r bb ib W most k0 l st vi vp ps i tF pF := h.trans (Below.refl _ _).drew
theorem BR.drewN {B : Nat} {w0 wr : World} {fb r bb ib : Nat} {W : Nat → Int} {most : Int} {k0 : Nat} {l : List InsN} {st : Int} {vi vp : Value} {ps : List Int} {i : InsN} {tF : TypeId} {pF : Value} (h : BR B w0 wr fb r bb ib W most k0 l st vi vp ps i tF pF) (n : Nat) : BR B w0 (wr.drewN n) fb r bb ib W most k0 l st vi vp ps i tF pF := h.trans (below_drewN (Below.refl _ _) n)
theorem BR.allocs {B : Nat} {w0 wr : World} {fb r bb ib : Nat} {W : Nat → Int} {most : Int} {k0 : Nat} {l : List InsN} {st : Int} {vi vp : Value} {ps : List Int} {i : InsN} {tF : TypeId} {pF : Value} (h : BR B w0 wr fb r bb ib W most k0 l st vi vp ps i tF pF) (o : Obj) : BR B w0 (wr.alloc o) fb r bb ib W most k0 l st vi vp ps i tF pF := h.trans ((Below.refl _ _).alloc (Nat.le_refl _) o)
theorem FE.cell0 {B : Nat} {w0 wr : World} {fb r : Nat} {most : Int} {k0 : Nat} {l : List InsN} {st : Int} {vi vp : Value} {ps : List Int} (h : FE B w0 wr fb r most k0 l st vi vp ps) : wr.cell? ⟨fb, 0, none⟩ = some (.pointer (some ⟨r, 0, none⟩)) := (FB.cells h.b1).1
theorem FW.wide {B : Nat} {w0 wr : World} {fb r : Nat} {most : Int} {k0 : Nat} {l : List InsN} {st : Int} {q q' : Nat} (h : FW B w0 wr fb r most k0 l st q) (hq : q ≤ q') : FW B w0 wr fb r most k0 l st q' := by
  obtain ⟨vi, vp, ps, h1, h2, h3, h4⟩ := h.blk
  exact ⟨⟨vi, vp, ps, h1, h2, h3, Nat.le_trans h4 hq⟩, h.below, h.lo, h.base⟩
theorem at_any (r bb : Nat) (W : Nat → Int) (n : Nat) (hn : (n : Int) < 5000) (b : Bool) (hb : decide (n < 4096) = b) (tF : TypeId) (pF : Value) (w : World) (hR : RamW w r bb W) (hF : w.cell? ⟨3, 0, none⟩ = some (.iface tF pF)) :
    Calls Tryd.prog 35 #[.pointer (some ⟨r, 0, none⟩), .int .u32 (4 * (n : Int))] w fun e w' => e = .returned (.tuple #[insV (slotI W n), .bool b]) ∧ Below w.heap.size w w' := by
  subst hb
  unfold slotI
  by_cases h : n < 4096
  · rw [if_pos h, decide_eq_true h]
    exact at_word r bb W n h w hR
  · rw [if_neg h, decide_eq_false h]
    exact at_out r n (by omega) (by omega) tF pF w hF
set_option maxHeartbeats 4000000 in
set_option maxRecDepth 20000 in
theorem branch_ok {B q : Nat} {w0 : World} (fb r bb : Nat) (W : Nat → Int) (most : Int) (k0 : Nat) (hk0 : (k0 : Int) < 4096) (l : List InsN) (hl : (l.length : Int) ≤ 28) (st : Int) (hst : 0 ≤ st ∧ st ≤ 90) (hq : (q : Int) ≤ 90) (i : InsN) (hi : i.Fits) (tF : TypeId) (pF : Value) (w : World)
    (h : FW B w0 w fb r most k0 l st q) (hR : RamW w r bb W) (hF : w.cell? ⟨3, 0, none⟩ = some (.iface tF pF)) :
    Calls Tryd.prog 38 #[.pointer (some ⟨fb, 0, none⟩), insV i] w fun e w' => e = .returned (.tuple #[]) ∧ FW B w0 w' fb r most k0 (if fitsB (decide (k0 + l.length + 1 < 4096)) most l.length st (slotI W (k0 + l.length + 1)) then l ++ [i] ++ [slotI W (k0 + l.length + 1)] else l) (if fitsB (decide (k0 + l.length + 1 < 4096)) most l.length st (slotI W (k0 + l.length + 1)) then st + stI i + stI (slotI W (k0 + l.length + 1)) else st) (q + 2) := by
  have hal := ((Below.refl w.heap.size w).alloc (Nat.le_refl _) (.cells #[.int .i64 i.op, .int .i64 i.s, .int .i64 i.t, .int .i64 i.d, .int .u32 i.imm] 25))
  obtain ⟨vi, vp, ps, hfe, hps⟩ := h.fe
  have HPS := Lib.hid hps
  obtain ⟨a, cap, rfl⟩ := sliceLen hfe.o1
  have HV : Hid (∀ g, (Value.slice a l.length cap).ownBlock = some g → g < w.heap.size) := fun g hg => (hfe.o1.lt g hg).2
  have hBR : BR B w0 (w.alloc (.cells #[.int .i64 i.op, .int .i64 i.s, .int .i64 i.t, .int .i64 i.d, .int .u32 i.imm] 25)) fb r bb w.heap.size W most k0 l st (.slice a l.length cap) vp ps i tF pF :=
    ⟨hfe.trans hal, hR.below hal hR.lt.1 hR.lt.2, Five.new w _ _ _ _ _ _, (hal.cell (World.block_lt_of_cell? _ _ hF)).trans hF⟩
  have hxf : (slotI W (k0 + l.length + 1)).Fits := by unfold slotI; split <;> exact decZ_fits _
  obtain ⟨bx, hbx⟩ : ∃ bx, decide (k0 + l.length + 1 < 4096) = bx := ⟨_, rfl⟩
  have e4 : 4 * ((k0 + l.length + 1 : Nat) : Int) = 4 * ((k0 + l.length : Nat) : Int) + 4 := by omega
  have HN : Hid (∀ w1, BR B w0 w1 fb r bb w.heap.size W most k0 l st (.slice a l.length cap) vp ps i tF pF → ∀ Q, Below w1.heap.size w1 Q → Calls Tryd.prog 36 #[.pointer (some ⟨fb, 0, none⟩)] Q fun e w' => e = .returned (.int .u32 (4 * ((k0 + l.length : Nat) : Int))) ∧ ∃ n, Q.drewN n = w') :=
    fun w1 h1 Q hQ => next_exact fb r most k0 hk0 l (by omega) st Q ((h1.trans hQ).fe.fw q HPS.out)
  have HA : Hid (∀ w1, BR B w0 w1 fb r bb w.heap.size W most k0 l st (.slice a l.length cap) vp ps i tF pF → ∀ Q, Below w1.heap.size w1 Q → Calls Tryd.prog 35 #[.pointer (some ⟨r, 0, none⟩), .int .u32 (4 * ((k0 + l.length : Nat) : Int) + 4)] Q fun e w' => e = .returned (.tuple #[insV (slotI W (k0 + l.length + 1)), .bool bx]) ∧ Below w1.heap.size w1 w' ∧ Below Q.heap.size Q w') := by
    intro w1 h1 Q hQ
    rw [← e4]
    exact (at_any r bb W (k0 + l.length + 1) (by omega) bx hbx tF pF Q (h1.trans hQ).ram (h1.trans hQ).far).mono fun e w' g => ⟨g.1, hQ.trans (g.2.mono hQ.size), g.2⟩
  clear h hfe hps hR hF hal e4
  have hpn : ((k0 + l.length : Nat) : Int) < 5000 := by omega
  have hpn0 : 0 ≤ ((k0 + l.length : Nat) : Int) := by omega
  generalize ((k0 + l.length : Nat) : Int) = pn at *
  generalize hx : slotI W (k0 + l.length + 1) = x at *
  have HX := Lib.hid hx
  have HBX := Lib.hid hbx
  simp only [hbx]
  generalize hLL : (if fitsB bx most l.length st x = true then l ++ [i] ++ [x] else l) = LL
  generalize hSS : (if fitsB bx most l.length st x = true then st + stI i + stI x else st) = SS
  have HLL := Lib.hid hLL
  have HSS := Lib.hid hSS
  clear hLL hSS
  have HXF := Lib.hid hxf
  have HIF := Lib.hid hi
  clear hx hbx hxf hi
  have hwr : IntKind.u32.wrap (4 * pn + 4) = 4 * pn + 4 := by
    have e : IntKind.u32.wrap (4 * pn + 4) = (4 * pn + 4) % 4294967296 := by simp [IntKind.wrap, IntKind.signed, IntKind.bits]
    rw [e]
    omega
  go_enter Tryd.func38, Tryd.ntmps38
  go_wp2_with fail
  generalize w.alloc (.cells #[.int .i64 i.op, .int .i64 i.s, .int .i64 i.t, .int .i64 i.d, .int .u32 i.imm] 25) = w1 at *
  have HB1 := Lib.hid hBR
  have c0 := hBR.fe.cell0
  have c0a := (hBR.allocs (.cells #[.int .i64 0, .int .i64 0, .int .i64 0, .int .i64 0, .int .u32 0] 25)).fe.cell0
  have c0b : ∀ n, ((w1.drewN n).alloc (.cells #[.int .i64 0, .int .i64 0, .int .i64 0, .int .i64 0, .int .u32 0] 25)).cell? ⟨fb, 0, none⟩ = some (.pointer (some ⟨r, 0, none⟩)) := fun n => ((hBR.drewN n).allocs (.cells #[.int .i64 0, .int .i64 0, .int .i64 0, .int .i64 0, .int .u32 0] 25)).fe.cell0
  have HN1 := Lib.hid (HN.out w1 HB1.out)
  have HA1 := Lib.hid (HA.out w1 HB1.out)
  clear hBR HN HA
  rename_i K1 hK1
  have hmeet : Hid (∀ (nb : Nat) (wx : World), w.heap.size ≤ nb → BR B w0 wx fb r bb w.heap.size W most k0 l st (.slice a l.length cap) vp ps i tF pF → Five wx nb 25 (.int .i64 x.op) (.int .i64 x.s) (.int .i64 x.t) (.int .i64 x.d) (.int .u32 x.imm) → K1 (({ tmps := #[.pointer (some ⟨fb, 0, none⟩), insV i, undef, .pointer (some ⟨w.heap.size, 0, none⟩), .pointer (some ⟨nb, 0, none⟩), undef, undef, .tuple #[insV x, .bool bx], .pointer (some ⟨fb, 0, none⟩), .pointer (some ⟨fb, 0, none⟩), .pointer (some ⟨fb, 0, none⟩), .pointer (some ⟨r, 0, none⟩), .pointer (some ⟨fb, 0, none⟩), .int .u32 (4 * pn), .int .u32 (4 * pn + 4), .tuple #[insV x, .bool bx], insV x, .bool bx, undef, undef, undef, undef, undef, undef, undef, undef, undef, undef, undef, undef, undef, undef, undef, undef, undef, undef, undef, undef, undef, undef, undef, undef, undef, undef, undef, undef, undef, undef, undef, undef, undef, undef, undef, undef, undef, undef], defers := [] } : Act).put (some 5) (.bool bx)) wx) := by
    intro nb wx hnb hBX hFX
    clear c0 c0a c0b HN1 HA1
    refine hK1 _ _ ?_
    obtain ⟨x0, x1, x2, x3, x4⟩ := hFX.cells
    have HK := Lib.hid (fun Q => kindOf_any x.op Q)
    have HBW := Lib.hid hBX
    have HFW := Lib.hid hFX
    clear hBX hFX
    go_wp2_with fail
    have fin0 : Hid (∀ wz, FW B w0 wz fb r most k0 l st q → fitsB bx most l.length st x = false → FW B w0 wz fb r most k0 LL SS (q + 2)) := fun wz h1 h2 => by
      rw [← HLL.out, ← HSS.out, h2]
      exact h1.wide (by omega)
    have fin1 : Hid (fitsB bx most l.length st x = true → LL = l ++ [i] ++ [x] ∧ SS = st + stI i + stI x) := fun h2 => by
      rw [← HLL.out, ← HSS.out, h2]
      exact ⟨rfl, rfl⟩
    cases bx
    · refine (HK.out _).mono ?_
      rintro e w5 ⟨rfl, hb5⟩
      have HB5 := Lib.hid (HBW.out.trans hb5)
      generalize bsl (kindOfB x.op) = ks at *
      clear x0 x1 x2 x3 x4 hb5
      go_wp2_with fail
      go_quiet (fail)
      go_wp2
      go_end0
      exact ⟨rfl, fin0.out _ ((HB5.out.drewN _).fe.fw q HPS.out) (by simp [fitsB])⟩
    · by_cases hroom : (l.length : Int) + 2 ≤ most
      · by_cases hkb : kindOfB x.op = branchL
        · have HK2 : Hid (∀ Q, Calls Tryd.prog 10 #[.int .i64 x.op] Q fun e w' => e = .returned (.string ⟨#[98, 114, 97, 110, 99, 104]⟩) ∧ Below Q.heap.size Q w') := fun Q => by
            have := HK.out Q
            rw [hkb] at this
            exact this
          have HFI : Hid (fitsB true most l.length st x = false) := by show _ = _; simp [fitsB, hkb]
          clear hkb
          refine (HK2.out _).mono ?_
          rintro e w5 ⟨rfl, hb5⟩
          have HB5 := Lib.hid (HBW.out.trans hb5)
          have hB1 := HB5.out.fe.b1
          obtain ⟨y0, y1, y2, y3, y4, y5, z3, z4, z5⟩ := FB.cells hB1
          clear x0 x1 x2 x3 x4 hb5 hB1
          go_wp2_with fail
          go_quiet (fail)
          go_wp2
          go_end0
          exact ⟨rfl, fin0.out _ ((HB5.out.drewN _).fe.fw q HPS.out) HFI.out⟩
        · by_cases hkt : kindOfB x.op = trapL
          · have HK2 : Hid (∀ Q, Calls Tryd.prog 10 #[.int .i64 x.op] Q fun e w' => e = .returned (.string ⟨#[116, 114, 97, 112]⟩) ∧ Below Q.heap.size Q w') := fun Q => by
              have := HK.out Q
              rw [hkt] at this
              exact this
            have HFI : Hid (fitsB true most l.length st x = false) := by show _ = _; simp [fitsB, hkt]
            clear hkb hkt
            refine (HK2.out _).mono ?_
            rintro e w5 ⟨rfl, hb5⟩
            have HB5 := Lib.hid (HBW.out.trans hb5)
            have hB1 := HB5.out.fe.b1
            obtain ⟨y0, y1, y2, y3, y4, y5, z3, z4, z5⟩ := FB.cells hB1
            clear x0 x1 x2 x3 x4 hb5 hB1
            go_wp2_with fail
            go_quiet (fail)
            go_wp2
            go_end0
            exact ⟨rfl, fin0.out _ ((HB5.out.drewN _).fe.fw q HPS.out) HFI.out⟩
          · have hsb := kind_not x.op branchL hkb
            have hstp := kind_not x.op trapL hkt
            obtain ⟨bf, hbf⟩ : ∃ bf, (decide (kindOfB x.op = storeL) && decide (8 ≤ st)) = bf := ⟨_, rfl⟩
            have HFL : Hid (∀ Q, FE B w0 Q fb r most k0 l st (.slice a l.length cap) vp ps → Calls Tryd.prog 37 #[.pointer (some ⟨fb, 0, none⟩), insV x] Q fun e w' => e = .returned (.bool bf) ∧ Below Q.heap.size Q w') := fun Q hQ => by
              by_cases hks : kindOfB x.op = storeL
              · refine full_st fb r most k0 l st x bf ?_ hks Q (hQ.fw q HPS.out)
                rw [← hbf, decide_eq_true hks]
                by_cases h8 : 8 ≤ st
                · exact Or.inl ⟨by simp [h8], h8⟩
                · exact Or.inr ⟨by simp [h8], by omega⟩
              · rw [← hbf, decide_eq_false hks]
                exact full_no fb r most k0 l st x hks Q (hQ.fw q HPS.out)
            have HFI : Hid (fitsB true most l.length st x = !bf) := by show _ = _; simp [fitsB, hkb, hkt, hroom, hbf]
            clear hkb hkt hbf
            refine (HK.out _).mono ?_
            rintro e w5 ⟨rfl, hb5⟩
            have HB5 := Lib.hid (HBW.out.trans hb5)
            have HF5 := Lib.hid (HFW.out.below hb5 HFW.out.lt)
            clear x0 x1 x2 x3 x4 hb5
            obtain ⟨x0, x1, x2, x3, x4⟩ := HF5.out.cells
            have hB1 := HB5.out.fe.b1
            obtain ⟨y0, y1, y2, y3, y4, y5, z3, z4, z5⟩ := FB.cells hB1
            generalize bsl (kindOfB x.op) = ks at *
            unfold branchL at hsb
            unfold trapL at hstp
            clear hB1
            go_wp2_with fail
            have hlz := HF5.out.lt
            have hwl : IntKind.i64.wrap ((l.length : Int) + 2) = (l.length : Int) + 2 := by
              unfold IntKind.wrap
              simp [IntKind.signed, IntKind.bits]
              omega
            have hrd : decide ((l.length : Int) + 2 ≤ most) = true := decide_eq_true hroom
            have hB5w : Below w5.heap.size w5 w5 := Below.refl _ _
            have hfw5 := HB5.out.fe
            cases bf
            all_goals
              go_region_held3 (fun w' => (w'.cell? ⟨fb, 1, none⟩ = some (.int .i64 most) ∧ w'.cell? ⟨fb, 3, none⟩ = some (.slice a l.length cap) ∧ w'.cell? ⟨nb, 0, none⟩ = some (.int .i64 x.op) ∧ w'.cell? ⟨nb, 1, none⟩ = some (.int .i64 x.s) ∧ w'.cell? ⟨nb, 2, none⟩ = some (.int .i64 x.t) ∧ w'.cell? ⟨nb, 3, none⟩ = some (.int .i64 x.d) ∧ w'.cell? ⟨nb, 4, none⟩ = some (.int .u32 x.imm) ∧ FE B w0 w' fb r most k0 l st (.slice a l.length cap) vp ps ∧ Below w5.heap.size w5 w'))
                ((go_split_ands; refine ⟨?_, ?_, ?_, ?_, ?_, ?_, ?_, ?_, ?_⟩ <;> (first | assumption | (rw [hb9.cell (World.block_lt_of_cell? _ _ (by assumption))]; assumption) | exact FE.trans (by assumption) hb9 | exact FE.trans (by assumption) (Below.refl _ _).drew | exact Below.drew (by assumption) | exact Below.trans (by assumption) (hb9.mono (Below.size (by assumption))) | (simp [go_sem, *]; done))))
                ((go_at_call 37; go_split_ands; refine (HFL.out _ (by assumption)).mono ?_; rintro e w' ⟨rfl, hb9⟩))
              go_split_ands
              have HBz := Lib.hid (HB5.out.trans (by assumption : Below w5.heap.size w5 w'))
              have HFz := Lib.hid (HF5.out.below (by assumption : Below w5.heap.size w5 w') HF5.out.lt)
              obtain ⟨u0, u1, u2, u3, u4⟩ := HBz.out.ins.cells
              obtain ⟨t0, t1, t2, t3, t4⟩ := HFz.out.cells
            · go_wp2_with fail
              refine (take_ok fb r most k0 hk0 l (by omega) st (by omega) (by omega) i HIF.out _ (by first | exact HBz.out.fe | exact HBz.out.drew.fe) HPS.out).mono ?_
              rintro e w8 ⟨rfl, hfw8, hoth8⟩
              have hx8 : Five w8 nb 25 (.int .i64 x.op) (.int .i64 x.s) (.int .i64 x.t) (.int .i64 x.d) (.int .u32 x.imm) :=
                HFz.out.of_block (hoth8 nb HFz.out.lt (HFz.out.ne HBz.out.fe.b1 (by decide)) (fun e => by have := HV.out nb e.symm; omega) (own_ne HBz.out.fe.o2 HFz.out (by decide)))
              obtain ⟨vi2, vp2, ps2, hfe8, hps8⟩ := hfw8.fe
              have hsi := stI_range i
              have HX8 := Lib.hid hx8
              have HE8 := Lib.hid hfe8
              have HP8 := Lib.hid hps8
              clear hoth8 hfw8 hfe8 hps8 t0 t1 t2 t3 t4 u0 u1 u2 u3 u4 hx8
              obtain ⟨t0, t1, t2, t3, t4⟩ := HX8.out.cells
              go_wp2_with fail
              refine (take_ok (q := q + 1) fb r most k0 hk0 (l ++ [i]) (by rw [List.length_append]; simp; omega) (st + stI i) (by omega) (by omega) x HXF.out _ (by first | exact HE8.out | exact HE8.out.drew) HP8.out).mono ?_
              rintro e w9 ⟨rfl, hfw9, _⟩
              have HW9 := Lib.hid hfw9
              clear hfw9 t0 t1 t2 t3 t4
              go_wp2
              go_end0
              exact ⟨rfl, by obtain ⟨e1, e2⟩ := fin1.out HFI.out; rw [e1, e2]; exact HW9.out⟩
            · go_wp2
              go_end0
              first
              | exact ⟨rfl, fin0.out _ (HBz.out.fe.fw q HPS.out) HFI.out⟩
              | exact ⟨rfl, fin0.out _ (HBz.out.drew.fe.fw q HPS.out) HFI.out⟩
      · refine (HK.out _).mono ?_
        rintro e w5 ⟨rfl, hb5⟩
        have HB5 := Lib.hid (HBW.out.trans hb5)
        generalize bsl (kindOfB x.op) = ks at *
        have hB1 := HB5.out.fe.b1
        obtain ⟨y0, y1, y2, y3, y4, y5, z3, z4, z5⟩ := FB.cells hB1
        have HFI : Hid (fitsB true most l.length st x = false) := by show _ = _; unfold fitsB; rw [decide_eq_false hroom]; simp
        have hrd : decide ((l.length : Int) + 2 ≤ most) = false := decide_eq_false hroom
        clear hroom
        clear x0 x1 x2 x3 x4 hb5 hB1
        go_wp2_with fail
        go_quiet (fail)
        go_wp2
        go_end0
        exact ⟨rfl, fin0.out _ ((HB5.out.drewN _).fe.fw q HPS.out) HFI.out⟩
  clear hK1
  go_region_with (first | (go_at_call 36; refine (HN1.out _ (by first | exact below_drewN (Below.refl _ _) _ | exact Below.refl _ _ | exact (Below.refl _ _).drew | exact below_drewN ((Below.refl _ _).alloc (Nat.le_refl _) _) _ | exact (Below.refl _ _).alloc (Nat.le_refl _) _ | exact ((Below.refl _ _).alloc (Nat.le_refl _) _).drew | exact (below_drewN (Below.refl _ _) _).alloc (Nat.le_refl _) _ | exact ((below_drewN (Below.refl _ _) _).alloc (Nat.le_refl _) _).drew | exact below_drewN ((below_drewN (Below.refl _ _) _).alloc (Nat.le_refl _) _) _)).mono ?_; rintro e w' ⟨rfl, n, rfl⟩) | (go_at_call 35; refine (HA1.out _ (by first | exact below_drewN (Below.refl _ _) _ | exact Below.refl _ _ | exact (Below.refl _ _).drew | exact below_drewN ((Below.refl _ _).alloc (Nat.le_refl _) _) _ | exact (Below.refl _ _).alloc (Nat.le_refl _) _ | exact ((Below.refl _ _).alloc (Nat.le_refl _) _).drew | exact (below_drewN (Below.refl _ _) _).alloc (Nat.le_refl _) _ | exact ((below_drewN (Below.refl _ _) _).alloc (Nat.le_refl _) _).drew | exact below_drewN ((below_drewN (Below.refl _ _) _).alloc (Nat.le_refl _) _) _)).mono ?_; rintro e w3 ⟨rfl, hb3, hb4⟩; first | (have hx3 : Five w3 w1.heap.size 25 (.int .i64 0) (.int .i64 0) (.int .i64 0) (.int .i64 0) (.int .u32 0) := (hb4.block w1.heap.size (by simp)).trans (show (w1.alloc (.cells #[.int .i64 0, .int .i64 0, .int .i64 0, .int .i64 0, .int .u32 0] 25)).heap[w1.heap.size]? = _ from heap_alloc_new w1 _); have HX3 := Lib.hid hx3; obtain ⟨k0', k1', k2', k3', k4'⟩ := hx3.cells; obtain ⟨m0', m1', m2', m3', m4'⟩ := hx3.free; clear hx3) | skip))
  all_goals
    first
    | refine hmeet.out w1.heap.size _ (Nat.le_of_lt HB1.out.ins.lt) (HB1.out.trans ?_) (HX3.out.fill _ _ _ _ _)
      exact below_fill (by assumption) (Nat.le_refl _) _ _ _ _ _
    | refine hmeet.out w3.heap.size _ (Nat.le_trans (Nat.le_of_lt HB1.out.ins.lt) (Below.size (by assumption : Below w1.heap.size w1 w3))) (HB1.out.trans ?_) (Five.new w3 _ _ _ _ _ _)
      exact Below.alloc (by assumption) (Below.size (by assumption)) _
end Go.Proofs.YtnppegldebocmaaDoor
