/- The walk of law3's HostAll at some instructions. Conditions: as each theorem states. -/
import Derived.Test.YtlnefmgiiogcmaaGreatDoorQ32
import Derived.Test.YtlnefmgiiogcmaaGreatDoorQ49
import Derived.Test.YtlnefmgiiogcmaaGreatDoorQ33
import Derived.Test.YtlnefmgiiogcmaaGreatDoorQ44
set_option linter.unusedVariables false
set_option linter.unusedSimpArgs false
namespace Go.Proofs.YtlnefmgiiogcmaaGreatDoor
open Go.RowKit
theorem wpList_load_want {P : Program} {ops : Array Oper} {rest : List Oper} {op : Oper} {a : Act} {w : World} {Q : Exit → Act → World → Prop} (hw : Region.wanted op (yielded ops a.tmps) = true) (ty : TypeId) (x : Operand) (ho : op.op = .load ty x)
    (b o : Nat) (hx : a.eval x = .pointer (some ⟨b, o, none⟩)) (cs : List Value) (d : TypeDesc) (hc : w.rangeAt b o cs)
    (hu : P.underlying ty = some d) (hd : d.isRow = true) (hi : (P.info? ty).map (·.size) = some cs.length)
    (h : wpList P ops Q rest (a.put op.dst (.agg cs.toArray)) w) : wpList P ops Q (op :: rest) a w :=
  wpList_step fun _ hK => by
    simp only [hw, if_true]
    exact wp_load_mid ty x ho b o hx cs d hc hu hd hi (hK _ _ h)
theorem grown_w {a b : World} (h : a.grownBy b none) : Below a.heap.size a b := ⟨h.os, h.tape, h.output, h.size, fun k hk => h.block k hk (by simp)⟩
theorem rangeAt_below {w w' : World} {b o : Nat} {L : List Value} (h : w.rangeAt b o L) (hb : Below w.heap.size w w') : w'.rangeAt b o L := fun j v hv => (hb.cell (World.block_lt_of_cell? _ _ (h j v hv))).trans (h j v hv)
theorem range_new (w : World) (L : List Value) (t : TypeId) : (w.alloc (.cells L.toArray t)).rangeAt w.heap.size 0 L := by
  intro j v hv
  rw [Nat.zero_add]
  simp only [World.cell?, heap_alloc_new]
  simpa using hv
theorem newS_there (w : World) : (w.alloc (.cells #[.int .u32 0, .int .u32 0, .int .u32 0, .int .u32 0, .int .u32 0, .int .u32 0, .int .u32 0, .int .u32 0, .int .u32 0, .int .u32 0, .int .u32 0, .int .u32 0, .int .u32 0, .int .u32 0, .int .u32 0, .int .u32 0, .int .u32 0, .int .u32 0, .int .u32 0, .int .u32 0, .int .u32 0, .int .u32 0, .int .u32 0, .int .u32 0, .int .u32 0, .int .u32 0, .int .u32 0, .int .u32 0, .int .u32 0, .int .u32 0, .int .u32 0, .int .u32 0, .int .u32 0, .int .u32 0, .int .u32 0, .int .u32 0, .bool false, .int .u32 0, .int .u32 0, .int .u32 0, .int .u32 0, .int .u32 0, .int .i64 0] 26)).there w.heap.size 0 43 := (StB.new w).there
theorem newS_st (w : World) (s : StF) : StB ((w.alloc (.cells #[.int .u32 0, .int .u32 0, .int .u32 0, .int .u32 0, .int .u32 0, .int .u32 0, .int .u32 0, .int .u32 0, .int .u32 0, .int .u32 0, .int .u32 0, .int .u32 0, .int .u32 0, .int .u32 0, .int .u32 0, .int .u32 0, .int .u32 0, .int .u32 0, .int .u32 0, .int .u32 0, .int .u32 0, .int .u32 0, .int .u32 0, .int .u32 0, .int .u32 0, .int .u32 0, .int .u32 0, .int .u32 0, .int .u32 0, .int .u32 0, .int .u32 0, .int .u32 0, .int .u32 0, .int .u32 0, .int .u32 0, .int .u32 0, .bool false, .int .u32 0, .int .u32 0, .int .u32 0, .int .u32 0, .int .u32 0, .int .i64 0] 26)).setCells w.heap.size 0 (stL s)) w.heap.size s := (StB.new w).put s
theorem newS_below (w : World) (s : StF) : Below w.heap.size w ((w.alloc (.cells #[.int .u32 0, .int .u32 0, .int .u32 0, .int .u32 0, .int .u32 0, .int .u32 0, .int .u32 0, .int .u32 0, .int .u32 0, .int .u32 0, .int .u32 0, .int .u32 0, .int .u32 0, .int .u32 0, .int .u32 0, .int .u32 0, .int .u32 0, .int .u32 0, .int .u32 0, .int .u32 0, .int .u32 0, .int .u32 0, .int .u32 0, .int .u32 0, .int .u32 0, .int .u32 0, .int .u32 0, .int .u32 0, .int .u32 0, .int .u32 0, .int .u32 0, .int .u32 0, .int .u32 0, .int .u32 0, .int .u32 0, .int .u32 0, .bool false, .int .u32 0, .int .u32 0, .int .u32 0, .int .u32 0, .int .u32 0, .int .i64 0] 26)).setCells w.heap.size 0 (stL s)) := (((Below.refl w.heap.size w).alloc (Nat.le_refl _) (.cells #[.int .u32 0, .int .u32 0, .int .u32 0, .int .u32 0, .int .u32 0, .int .u32 0, .int .u32 0, .int .u32 0, .int .u32 0, .int .u32 0, .int .u32 0, .int .u32 0, .int .u32 0, .int .u32 0, .int .u32 0, .int .u32 0, .int .u32 0, .int .u32 0, .int .u32 0, .int .u32 0, .int .u32 0, .int .u32 0, .int .u32 0, .int .u32 0, .int .u32 0, .int .u32 0, .int .u32 0, .int .u32 0, .int .u32 0, .int .u32 0, .int .u32 0, .int .u32 0, .int .u32 0, .int .u32 0, .int .u32 0, .int .u32 0, .bool false, .int .u32 0, .int .u32 0, .int .u32 0, .int .u32 0, .int .u32 0, .int .i64 0] 26))).trans ((Kept.setCells w.heap.size (stL s) (w.alloc (.cells #[.int .u32 0, .int .u32 0, .int .u32 0, .int .u32 0, .int .u32 0, .int .u32 0, .int .u32 0, .int .u32 0, .int .u32 0, .int .u32 0, .int .u32 0, .int .u32 0, .int .u32 0, .int .u32 0, .int .u32 0, .int .u32 0, .int .u32 0, .int .u32 0, .int .u32 0, .int .u32 0, .int .u32 0, .int .u32 0, .int .u32 0, .int .u32 0, .int .u32 0, .int .u32 0, .int .u32 0, .int .u32 0, .int .u32 0, .int .u32 0, .int .u32 0, .int .u32 0, .int .u32 0, .int .u32 0, .int .u32 0, .int .u32 0, .bool false, .int .u32 0, .int .u32 0, .int .u32 0, .int .u32 0, .int .u32 0, .int .i64 0] 26)) 0).to_below (B := w.heap.size) (by simp) (fun k hk e => by omega))
theorem Row.argW {w : World} {g : Nat} {ws : List Int} (h : Row w g 22 4096 (wordsG ws)) (hl : ws.length = 4096) : ArgW w (.slice (some ⟨g, 0, none⟩) 4096 4096) ws := by
  refine ⟨some ⟨g, 0, none⟩, 4096, by rw [hl], fun j hj => ⟨_, rfl, ?_⟩⟩
  have := h.cell (k := j) (by omega)
  unfold wordsG at this
  rw [addr_add, this, List.getD_eq_getElem?_getD, List.getElem?_eq_getElem hj]
  rfl
theorem stL_congr {s t : StF} (h : ∀ j, j < 43 → stG s j = stG t j) : stL s = stL t := List.map_congr_left (fun j hj => h j (List.mem_range.1 hj))
theorem left_same {s : StF} {X Y : Regs} {pc : Int} {many : Nat} (h : ∀ k, k < 34 → X k = Y k) : ∀ j, j < 43 → stG (leftS s X pc many) j = stG (leftS s Y pc many) j := by
  intro j hj
  unfold stG leftS
  by_cases e : j < 32
  · simp only [e, if_true, h j (by omega)]
  · simp only [e, if_false, h 32 (by decide), h 33 (by decide)]
theorem Tryz.infoPl : (Tryz.prog.info? 29).map (·.size) = some 45 := by kernel_rfl
set_option maxHeartbeats 16000000 in
set_option maxRecDepth 100000 in
theorem hlaw_any {w : World} {pc mx lev : Int} {l : List InsN} {g o cap : Nat} {L : List Value} {lp : Bool} {ad : Nat → Addr} {s : StF} {ws : List Int} {wt : Nat → Bool}
    (hS : Sents w ad) (hm : w.cell? ⟨8, 0, none⟩ = some (.int .i64 mx)) (hl : InsAt w g o l) (hl0 : 0 < l.length) (hf : ∀ i ∈ l, i.Fits) (p0 : 0 ≤ pc) (p1 : pc < 4294967296) (hL : L.length = 45)
    (hLP : ∀ wx, Calls Tryz.prog 5 #[.agg L.toArray] wx fun e w' => e = .returned (.bool lp) ∧ Below wx.heap.size wx w')
    (hPL : ∀ wx, Calls Tryz.prog 9 #[.agg L.toArray, .int .u32 pc] wx fun e w' => e = .returned (.agg (stL s).toArray) ∧ Below wx.heap.size wx w')
    (hMO : lp = false → ∀ wx, Below w.heap.size w wx → Calls Tryz.prog 10 #[.agg L.toArray] wx fun e w' => MadeP wx ws wt 1 e w')
    (hX : RegsOK (regsP s)) (hs0 : s.r 0 = 0) (hsl : s.slot = false) (hsp : s.pc = pc) (hsn : s.next = (pc + 4) % 4294967296) (hc0 : lp = false → 0 ≤ s.count) (hc1 : lp = false → s.count ≤ 1099511627776) :
    Calls Tryz.prog 3 #[.int .u32 pc, .slice (some ⟨g, o, none⟩) l.length cap, .int .i64 lev, .agg L.toArray] w fun e w' => e = .returned (.bool true) ∧ Below w.heap.size w w' := by
  have hb0 := (Below.refl w.heap.size w).alloc (Nat.le_refl _) (.cells L.toArray 29)
  have HR0 := Lib.hid (range_new w L 29)
  have HB0 := Lib.hid hb0
  have HLO := Lib.hid (hosted_any (hS.below hb0) ((hb0.cell (World.block_lt_of_cell? _ _ hm)).trans hm))
  have HS := Lib.hid hS
  have HM := Lib.hid hm
  have HI := Lib.hid hl
  have HF := Lib.hid hf
  have HLP := Lib.hid hLP
  have HPL := Lib.hid hPL
  have HMO := Lib.hid hMO
  have hi0 := Tryz.infoPl
  rw [← hL] at hi0
  have HIN := Lib.hid hi0
  have HL := Lib.hid hL
  have HSF := Lib.hid (And.intro hs0 (And.intro hsl (And.intro hsp (And.intro hsn (And.intro hc0 (And.intro hc1 hX))))))
  clear hs0 hsl hsp hsn hc1 hc0 hX
  clear hb0 hS hm hl hf hLP hPL hMO hi0 hL
  go_enter Tryz.func3, Tryz.ntmps3
  go_upto_region 1 with fail
  generalize w.alloc (.cells L.toArray 29) = W0 at *
  go_wp2_with fail
  refine HLO.out.mono ?_
  rintro e w1 ⟨rfl, hb1⟩
  have HB1 := Lib.hid (HB0.out.trans (hb1.mono HB0.out.size))
  have HR1 := Lib.hid (rangeAt_below HR0.out hb1)
  clear HLO hb1 HR0 HB0
  by_cases h24 : 24 < l.length
  · have h24I : (24 : Int) < (l.length : Int) := by omega
    go_wp2_with fail
    go_ret
    exact ⟨rfl, HB1.out⟩
  · have h24I : (l.length : Int) ≤ 24 := by omega
    have hd24 : decide ((24 : Int) < (l.length : Int)) = false := decide_eq_false (by omega)
    have HN24 : Hid (l.length ≤ 24) := Lib.hid (by omega)
    clear h24
    cases lp with
    | true =>
      go_wp2_with (first
        | (refine wpList_load_want (by first | rfl | (rw [hd24]; rfl)) 29 (.tmp 7) rfl w.heap.size 0 rfl L _ HR1.out Tryz.underlying29 rfl HIN.out ?_)
        | (go_at_call 5; refine (HLP.out _).mono ?_; rintro e w2 ⟨rfl, hb2⟩; replace hb2 := Lib.hid hb2))
      go_ret
      exact ⟨rfl, HB1.out.trans (hb2.out.mono HB1.out.size)⟩
    | false =>
      by_cases hv0 : lev < 0
      · have hdv : decide (lev < 0) = true := decide_eq_true hv0
        go_wp2_with (first
          | (refine wpList_load_want (by first | rfl | (rw [hd24]; rfl)) 29 (.tmp 7) rfl w.heap.size 0 rfl L _ HR1.out Tryz.underlying29 rfl HIN.out ?_)
          | (go_at_call 5; refine (HLP.out _).mono ?_; rintro e w2 ⟨rfl, hb2⟩; replace hb2 := Lib.hid hb2))
        go_ret
        exact ⟨rfl, HB1.out.trans (hb2.out.mono HB1.out.size)⟩
      by_cases hv2 : 2 < lev
      · have hdv : decide (lev < 0) = false := decide_eq_false hv0
        have hdw : decide (2 < lev) = true := decide_eq_true hv2
        go_wp2_with (first
          | (refine wpList_load_want (by first | rfl | (rw [hd24]; rfl)) 29 (.tmp 7) rfl w.heap.size 0 rfl L _ HR1.out Tryz.underlying29 rfl HIN.out ?_)
          | (go_at_call 5; refine (HLP.out _).mono ?_; rintro e w2 ⟨rfl, hb2⟩; replace hb2 := Lib.hid hb2))
        go_ret
        exact ⟨rfl, HB1.out.trans (hb2.out.mono HB1.out.size)⟩
      obtain ⟨lv, rfl⟩ := Int.eq_ofNat_of_zero_le (show 0 ≤ lev by omega)
      have hdv : decide ((lv : Int) < 0) = false := decide_eq_false hv0
      have hdw : decide (2 < (lv : Int)) = false := decide_eq_false hv2
      have HLV : Hid (lv ≤ 2) := Lib.hid (by omega)
      have lvI : (lv : Int) ≤ 2 := by omega
      clear hv0 hv2
      go_upto_region 4 with (first
        | (refine wpList_load_want (by first | rfl | (rw [hd24]; rfl)) 29 (.tmp 7) rfl w.heap.size 0 rfl L _ HR1.out Tryz.underlying29 rfl HIN.out ?_)
        | (go_at_call 5; refine (HLP.out _).mono ?_; rintro e w2 ⟨rfl, hb2⟩; replace hb2 := Lib.hid hb2))
      have HB2 := Lib.hid (HB1.out.trans (hb2.out.mono HB1.out.size))
      have HR2 := Lib.hid (rangeAt_below HR1.out hb2.out)
      have HI2 := Lib.hid (HI.out.below HB2.out hl0)
      have HS2 := Lib.hid (HS.out.below HB2.out)
      obtain ⟨iI, hI1, hI2, hI3, hI4⟩ := info_parts Tryz.infoIns
      clear HB1 HR1 hb2 hd24 HLP hdv hdw
      go_wp2_with (at_builtin; refine wpList_append_lies _ rfl (.tmp 46) (.tmp 47) 23 rfl w2.heap.size 69 iI (.agg #[.int .i64 0, .int .i64 0, .int .i64 0, .int .i64 0, .int .u32 0]) 5 40 Tryz.underlying23 hI1 hI2 hI3 hI4 rfl (by decide) _ 0 [] rfl (World.ownsRow_nil _ _ _ _) ⟨g, o, none⟩ l.length cap (l.flatMap insC) rfl (flat5_len l) (flat5_news HI2.out) (flat5_one l) hl0 (by have := HN24.out; unfold maxLen; omega) (by have := HN24.out; omega) (Nat.le_refl _) _ rfl ?_)
      intro g1 cap1 w3 hown hgrow hat hlt3
      try simp only [Nat.zero_add, List.nil_append] at hown
      try simp only [Nat.zero_add]
      obtain ⟨hi3, hg1, hty3⟩ := insAt_own hown hl0
      have hb3 := grown_w hgrow
      have HLW := Lib.hid (lower_any (cap := cap1) (vp := .slice none 0 0) (by have := HN24.out; omega) hi3 HF.out (HS2.out.below hb3) p0 p1 hty3)
      have HB3 := Lib.hid (HB2.out.trans (hb3.mono HB2.out.size))
      have HR3 := Lib.hid (rangeAt_below HR2.out hb3)
      clear hI1 hI2 hI3 hI4 hown hgrow hat hlt3 hi3 hg1 hty3 hb3 HB2 HR2 HI2 HS2
      go_wp2_with fail
      refine HLW.out.mono ?_
      intro e w4 hp
      unfold LowerPost at hp
      by_cases hr : regErr l = 0
      · rw [if_pos hr] at hp
        have hm0 : ∀ i ∈ l, 0 ≤ i.imm := fun i hi => (HF.out i hi).m0
        have hco := lowAll_ok (pc := pc) hr hm0
        obtain ⟨ov, rfl, hown, hb4⟩ := hp
        obtain ⟨g2, capo, rfl, hg2, hcapo, hops⟩ := opsAt_own hown hco.ne
        clear hown
        generalize lowAll pc l = ops at *
        have HCO := Lib.hid hco
        have HCAP := Lib.hid hcapo
        have hml : ((l.length : Nat) : Int) ≤ 24 := h24I
        have HB4 := Lib.hid (HB3.out.trans (hb4.mono HB3.out.size))
        have HR4 := Lib.hid (rangeAt_below HR3.out hb4)
        have HO4 := Lib.hid hops
        clear HB3 HR3 hb4 hops hr hm0 hco hg2 hcapo HLW HF
        have hbc := (Below.refl w4.heap.size w4).alloc (Nat.le_refl _) (.cells #[.int .u32 pc, .int .i64 (l.length : Int), .slice (some ⟨g2, 0, none⟩) ops.length capo] 34)
        have HC5 := Lib.hid (heap_alloc_new w4 (.cells #[.int .u32 pc, .int .i64 (l.length : Int), .slice (some ⟨g2, 0, none⟩) ops.length capo] 34))
        have HB5 := Lib.hid (HB4.out.trans ((hbc).mono HB4.out.size))
        have HR5 := Lib.hid (rangeAt_below HR4.out (hbc))
        have HO5 := Lib.hid (HO4.out.below (hbc) HO4.out.lt)
        clear HB4 HR4 HO4
        clear hbc
        go_upto_region 6 with fail
        generalize w4.alloc (.cells #[.int .u32 pc, .int .i64 (l.length : Int), .slice (some ⟨g2, 0, none⟩) ops.length capo] 34) = W5 at *
        obtain ⟨q0, q1, q2, qf⟩ := plan_cells HC5.out
        have HMX5 := Lib.hid ((HB5.out.cell (World.block_lt_of_cell? _ _ HM.out)).trans HM.out)
        have HOP := Lib.hid (opt_any (pc := pc) (level := lv) HO5.out HCO.out HCAP.out HLV.out HMX5.out)
        unfold codeV at HOP
        go_wp2_with fail
        refine HOP.out.mono ?_
        intro e w6 hp6
        obtain ⟨g3, cap3, rfl, hc3, ho3, hb6⟩ := hp6
        unfold codeV
        have HCZ := Lib.hid (optZ_ok (level := lv) HCO.out).1
        clear q0 q1 q2 qf HOP HMX5
        have HB6 := Lib.hid (HB5.out.trans ((hb6).mono HB5.out.size))
        have HR6 := Lib.hid (rangeAt_below HR5.out (hb6))
        have HO6 := Lib.hid (HO5.out.below (hb6) HO5.out.lt)
        have HC6 := Lib.hid (((hb6).block _ (Array.getElem?_eq_some_iff.1 HC5.out).1).trans HC5.out)
        clear HB5 HR5 HO5 HC5
        have HZ6 := Lib.hid ho3
        obtain ⟨oz, hoz⟩ : ∃ oz, optZ lv ops = oz := ⟨_, rfl⟩
        rw [hoz] at HZ6 HCZ ⊢
        have HOZ := Lib.hid hoz
        clear hoz ho3 hc3 hb6
        have hbd := (Below.refl w6.heap.size w6).alloc (Nat.le_refl _) (.cells #[.int .u32 pc, .int .i64 (l.length : Int), .slice (some ⟨g3, 0, none⟩) oz.length cap3] 34)
        have HD7 := Lib.hid (heap_alloc_new w6 (.cells #[.int .u32 pc, .int .i64 (l.length : Int), .slice (some ⟨g3, 0, none⟩) oz.length cap3] 34))
        have HB7 := Lib.hid (HB6.out.trans ((hbd).mono HB6.out.size))
        have HR7 := Lib.hid (rangeAt_below HR6.out (hbd))
        have HO7 := Lib.hid (HO6.out.below (hbd) HO6.out.lt)
        have HC7 := Lib.hid (((hbd).block _ (Array.getElem?_eq_some_iff.1 HC6.out).1).trans HC6.out)
        have HZ7 := Lib.hid (HZ6.out.below (hbd) HZ6.out.lt)
        clear HB6 HR6 HO6 HC6 HZ6
        clear hbd
        go_upto_region 9 with fail
        generalize w6.alloc (.cells #[.int .u32 pc, .int .i64 (l.length : Int), .slice (some ⟨g3, 0, none⟩) oz.length cap3] 34) = W7 at *
        obtain ⟨q0, q1, q2, qf⟩ := plan_cells HD7.out
        have HMX7 := Lib.hid ((HB7.out.cell (World.block_lt_of_cell? _ _ HM.out)).trans HM.out)
        have HMK := Lib.hid (planMake_at (pc := pc) (cap := cap3) HZ7.out HCZ.out HMX7.out)
        go_wp2_with fail
        refine HMK.out.mono ?_
        intro e w8 hp8
        obtain ⟨hb8, rv, rfl, hrw8⟩ := hp8
        obtain ⟨gr, capr, hrv8, -⟩ := id hrw8.ex
        subst hrv8
        clear q0 q1 q2 qf HMK HMX7
        have HB8 := Lib.hid (HB7.out.trans ((hb8).mono HB7.out.size))
        have HR8 := Lib.hid (rangeAt_below HR7.out (hb8))
        have HO8 := Lib.hid (HO7.out.below (hb8) HO7.out.lt)
        have HC8 := Lib.hid (((hb8).block _ (Array.getElem?_eq_some_iff.1 HC7.out).1).trans HC7.out)
        have HZ8 := Lib.hid (HZ7.out.below (hb8) HZ7.out.lt)
        have HD8 := Lib.hid (((hb8).block _ (Array.getElem?_eq_some_iff.1 HD7.out).1).trans HD7.out)
        clear HB7 HR7 HO7 HC7 HZ7 HD7
        clear HD8 HZ8
        have HP8 := Lib.hid hrw8
        have hbe := (Below.refl w8.heap.size w8).alloc (Nat.le_refl _) (.cells #[.int .u32 pc, .int .i64 (l.length : Int), .slice (some ⟨gr, 0, none⟩) (makeZ oz).length capr] 45)
        have HE9 := Lib.hid (heap_alloc_new w8 (.cells #[.int .u32 pc, .int .i64 (l.length : Int), .slice (some ⟨gr, 0, none⟩) (makeZ oz).length capr] 45))
        clear hb8 hrw8
        have HB9 := Lib.hid (HB8.out.trans ((hbe).mono HB8.out.size))
        have HR9 := Lib.hid (rangeAt_below HR8.out (hbe))
        have HO9 := Lib.hid (HO8.out.below (hbe) HO8.out.lt)
        have HC9 := Lib.hid (((hbe).block _ (Array.getElem?_eq_some_iff.1 HC8.out).1).trans HC8.out)
        have HP9 := Lib.hid (HP8.out.below (hbe))
        clear HB8 HR8 HO8 HC8 HP8
        clear hbe
        go_upto_region 12 with fail
        generalize w8.alloc (.cells #[.int .u32 pc, .int .i64 (l.length : Int), .slice (some ⟨gr, 0, none⟩) (makeZ oz).length capr] 45) = W9 at *
        have HBP9 := Lib.hid (show Below W9.heap.size W9 W9 from Below.refl _ _)
        have HB9W := Lib.hid HB9.out.size
        have HB89 := Lib.hid (Array.getElem?_eq_some_iff.1 HE9.out).1
        go_upto_region 13 with (first
          | (refine wpList_load_mid rfl 29 (.tmp 7) rfl w.heap.size 0 rfl L _ HR9.out Tryz.underlying29 rfl HIN.out ?_)
          | (go_at_call 9; refine (HPL.out _).mono ?_; rintro e w10 ⟨rfl, hb10⟩; replace hb10 := Lib.hid hb10)
          | (refine wpList_store_mid rfl 26 (.tmp 17) (.tmp 78) rfl w10.heap.size 0 (stL s).toArray rfl rfl (by simpa [stL_len] using newS_there w10) (by rw [Tryz.infoSt]; simp [stL_len]) (stL_one s) ?_))
        have HB10 := Lib.hid (HB9.out.trans ((hb10.out).mono HB9.out.size))
        have HR10 := Lib.hid (rangeAt_below HR9.out (hb10.out))
        have HO10 := Lib.hid (HO9.out.below (hb10.out) HO9.out.lt)
        have HC10 := Lib.hid (((hb10.out).block _ (Array.getElem?_eq_some_iff.1 HC9.out).1).trans HC9.out)
        have HE10 := Lib.hid (((hb10.out).block _ (Array.getElem?_eq_some_iff.1 HE9.out).1).trans HE9.out)
        have HBP10 := Lib.hid (HBP9.out.trans ((hb10.out).mono HBP9.out.size))
        clear HB9 HR9 HO9 HC9 HE9 HBP9
        have HWX := Lib.hid (hb10.out.size)
        have hn11 := newS_below w10 s
        have HS11 := Lib.hid (newS_st w10 s)
        have HB11 := Lib.hid (HB10.out.trans ((hn11).mono HB10.out.size))
        have HR11 := Lib.hid (rangeAt_below HR10.out (hn11))
        have HO11 := Lib.hid (HO10.out.below (hn11) HO10.out.lt)
        have HC11 := Lib.hid (((hn11).block _ (Array.getElem?_eq_some_iff.1 HC10.out).1).trans HC10.out)
        have HE11 := Lib.hid (((hn11).block _ (Array.getElem?_eq_some_iff.1 HE10.out).1).trans HE10.out)
        have HBP11 := Lib.hid (HBP10.out.trans ((hn11).mono HBP10.out.size))
        clear HB10 HR10 HO10 HC10 HE10 HBP10
        clear hn11
        generalize ((w10.alloc (.cells #[.int .u32 0, .int .u32 0, .int .u32 0, .int .u32 0, .int .u32 0, .int .u32 0, .int .u32 0, .int .u32 0, .int .u32 0, .int .u32 0, .int .u32 0, .int .u32 0, .int .u32 0, .int .u32 0, .int .u32 0, .int .u32 0, .int .u32 0, .int .u32 0, .int .u32 0, .int .u32 0, .int .u32 0, .int .u32 0, .int .u32 0, .int .u32 0, .int .u32 0, .int .u32 0, .int .u32 0, .int .u32 0, .int .u32 0, .int .u32 0, .int .u32 0, .int .u32 0, .int .u32 0, .int .u32 0, .int .u32 0, .int .u32 0, .bool false, .int .u32 0, .int .u32 0, .int .u32 0, .int .u32 0, .int .u32 0, .int .i64 0] 26)).setCells w10.heap.size 0 (stL s)) = W11 at *
        have HLa : Hid (w10.heap.size < W11.heap.size) := Lib.hid HS11.out.lt
        go_upto_region 14 with (first
          | (refine wpList_load_mid rfl 26 (.tmp 17) rfl w10.heap.size 0 rfl (stL s) _ (StB.range HS11.out) Tryz.underlying26 rfl (by rw [Tryz.infoSt, stL_len]) ?_)
          | (refine wpList_store_mid rfl 26 (.tmp 18) (.tmp 79) rfl W11.heap.size 0 (stL s).toArray rfl rfl (by simpa [stL_len] using newS_there W11) (by rw [Tryz.infoSt]; simp [stL_len]) (stL_one s) ?_))
        have hn12 := newS_below W11 s
        have HT12 := Lib.hid (newS_st W11 s)
        have HB12 := Lib.hid (HB11.out.trans ((hn12).mono HB11.out.size))
        have HR12 := Lib.hid (rangeAt_below HR11.out (hn12))
        have HO12 := Lib.hid (HO11.out.below (hn12) HO11.out.lt)
        have HC12 := Lib.hid (((hn12).block _ (Array.getElem?_eq_some_iff.1 HC11.out).1).trans HC11.out)
        have HE12 := Lib.hid (((hn12).block _ (Array.getElem?_eq_some_iff.1 HE11.out).1).trans HE11.out)
        have HBP12 := Lib.hid (HBP11.out.trans ((hn12).mono HBP11.out.size))
        have HS12 := Lib.hid (show StB _ _ s from HS11.out.of_block ((hn12).block _ HS11.out.lt))
        clear HB11 HR11 HO11 HC11 HE11 HBP11 HS11
        clear hn12
        generalize ((W11.alloc (.cells #[.int .u32 0, .int .u32 0, .int .u32 0, .int .u32 0, .int .u32 0, .int .u32 0, .int .u32 0, .int .u32 0, .int .u32 0, .int .u32 0, .int .u32 0, .int .u32 0, .int .u32 0, .int .u32 0, .int .u32 0, .int .u32 0, .int .u32 0, .int .u32 0, .int .u32 0, .int .u32 0, .int .u32 0, .int .u32 0, .int .u32 0, .int .u32 0, .int .u32 0, .int .u32 0, .int .u32 0, .int .u32 0, .int .u32 0, .int .u32 0, .int .u32 0, .int .u32 0, .int .u32 0, .int .u32 0, .int .u32 0, .int .u32 0, .bool false, .int .u32 0, .int .u32 0, .int .u32 0, .int .u32 0, .int .u32 0, .int .i64 0] 26)).setCells W11.heap.size 0 (stL s)) = W12 at *
        have HLb : Hid (W11.heap.size < W12.heap.size) := Lib.hid HT12.out.lt
        go_upto_region 15 with (first
          | (refine wpList_load_mid rfl 29 (.tmp 7) rfl w.heap.size 0 rfl L _ HR12.out Tryz.underlying29 rfl HIN.out ?_)
          | (go_at_call 10; refine (HMO.out trivial _ HB12.out).mono ?_; rintro e w13 ⟨r1, bb1, mw1, mh1, rfl, hra1, hb13, na1, nb1, nc1, nd1, ne1⟩; replace hra1 := Lib.hid hra1; replace hb13 := Lib.hid hb13))
        have HN1 := Lib.hid (And.intro na1 (And.intro nb1 (And.intro nc1 (And.intro nd1 ne1))))
        clear na1 nb1 nc1 nd1 ne1
        have HM13 := hra1
        have HLc := Lib.hid hb13.out.size
        have HM13L := Lib.hid (And.intro hra1.out.lt (And.intro hra1.out.bytes.lt (And.intro hra1.out.watch.lt hra1.out.hits.lt)))
        have HB13 := Lib.hid (HB12.out.trans ((hb13.out).mono HB12.out.size))
        have HR13 := Lib.hid (rangeAt_below HR12.out (hb13.out))
        have HO13 := Lib.hid (HO12.out.below (hb13.out) HO12.out.lt)
        have HC13 := Lib.hid (((hb13.out).block _ (Array.getElem?_eq_some_iff.1 HC12.out).1).trans HC12.out)
        have HE13 := Lib.hid (((hb13.out).block _ (Array.getElem?_eq_some_iff.1 HE12.out).1).trans HE12.out)
        have HBP13 := Lib.hid (HBP12.out.trans ((hb13.out).mono HBP12.out.size))
        have HS13 := Lib.hid (show StB _ _ s from HS12.out.of_block ((hb13.out).block _ HS12.out.lt))
        have HT13 := Lib.hid (show StB _ _ s from HT12.out.of_block ((hb13.out).block _ HT12.out.lt))
        clear HB12 HR12 HO12 HC12 HE12 HBP12 HS12 HT12
        clear hra1 hb13
        go_upto_region 16 with (first
          | (refine wpList_load_mid rfl 29 (.tmp 7) rfl w.heap.size 0 rfl L _ HR13.out Tryz.underlying29 rfl HIN.out ?_)
          | (go_at_call 10; refine (HMO.out trivial _ HB13.out).mono ?_; rintro e w14 ⟨r2, bb2, mw2, mh2, rfl, hra2, hb14, na2, nb2, nc2, nd2, ne2⟩; replace hra2 := Lib.hid hra2; replace hb14 := Lib.hid hb14))
        have HN2 := Lib.hid (And.intro na2 (And.intro nb2 (And.intro nc2 (And.intro nd2 ne2))))
        clear na2 nb2 nc2 nd2 ne2
        have HQ14 := hra2
        have HB14 := Lib.hid (HB13.out.trans ((hb14.out).mono HB13.out.size))
        have HR14 := Lib.hid (rangeAt_below HR13.out (hb14.out))
        have HO14 := Lib.hid (HO13.out.below (hb14.out) HO13.out.lt)
        have HC14 := Lib.hid (((hb14.out).block _ (Array.getElem?_eq_some_iff.1 HC13.out).1).trans HC13.out)
        have HE14 := Lib.hid (((hb14.out).block _ (Array.getElem?_eq_some_iff.1 HE13.out).1).trans HE13.out)
        have HBP14 := Lib.hid (HBP13.out.trans ((hb14.out).mono HBP13.out.size))
        have HS14 := Lib.hid (show StB _ _ s from HS13.out.of_block ((hb14.out).block _ HS13.out.lt))
        have HT14 := Lib.hid (show StB _ _ s from HT13.out.of_block ((hb14.out).block _ HT13.out.lt))
        have HM14 := Lib.hid (HM13.out.below (hb14.out))
        clear HB13 HR13 HO13 HC13 HE13 HBP13 HS13 HT13 HM13
        clear hra2 hb14
        have HMX14 := Lib.hid ((HB14.out.cell (World.block_lt_of_cell? _ _ HM.out)).trans HM.out)
        have HSE14 := Lib.hid (HS.out.below HB14.out)
        obtain ⟨q0, q1, q2, qf⟩ := plan_cells HC14.out
        obtain ⟨hq1, hq2⟩ := host_ends (level := lv) HCO.out wt (regsP s) ws (show regsP s 0 = 0 from HSF.out.1)
        rw [HOZ.out] at hq1 hq2
        have hfl : (makeZ oz).flatten.length ≤ 100 := by
          have h1 := (makeZ_at (ops := oz) (fun x hx => (HCZ.out.good x hx).2.1)).perm.length_eq
          have h2 := HCZ.out.len
          have h3 : (makeZ oz).flatten.length = oz.length := h1
          omega
        have HFL := Lib.hid hfl
        have HRDY : Hid (s.next = (s.pc + 4) % 4294967296) := Lib.hid (by rw [HSF.out.2.2.2.1, HSF.out.2.2.1])
        have HCT : Hid (0 ≤ s.count ∧ s.count ≤ 4611686018427387904) := Lib.hid ⟨HSF.out.2.2.2.2.1 trivial, Int.le_trans (HSF.out.2.2.2.2.2.1 trivial) (by decide)⟩
        have HSZ1 : Hid (w10.heap.size < W11.heap.size ∧ W11.heap.size < W12.heap.size ∧ W12.heap.size ≤ w13.heap.size) := Lib.hid ⟨HLa.out, HLb.out, HLc.out⟩
        have HEV := Lib.hid (evalP_any (cap := capo) (n := 1) HS14.out HM14.out HO14.out HCO.out HMX14.out HSE14.out HSF.out.2.1 HRDY.out HSF.out.2.2.1 HCT.out.1 HCT.out.2 HSF.out.2.2.2.2.2.2 ⟨by have h1 := HSZ1.out; have h2 := HN1.out.1; omega, by have h1 := HSZ1.out; have h2 := HN1.out.2.1; omega, by have h1 := HSZ1.out; have h2 := HN1.out.2.2.1; omega, by have h1 := HSZ1.out; have h2 := HN1.out.2.2.2.1; omega⟩ HN1.out.2.2.2.2 (by decide))
        obtain ⟨Z1, hz1⟩ : ∃ z, evalZ wt ops (regsP s) ws = z := ⟨_, rfl⟩
        obtain ⟨Z2, hz2⟩ : ∃ z, rowsZ wt (makeZ oz) (regsP s) ws = z := ⟨_, rfl⟩
        have hnf := HCO.out.ends wt (regsP s) ws
        rw [hz1] at hq2 hnf HEV
        rw [hz2] at hq2
        have HZ2 := Lib.hid hz2
        have HPO := Lib.hid hq1
        clear hz1 hz2 hfl hq1 HMX14 HSE14 HLa HLb HLc
        go_wp2_with fail
        refine HEV.out.mono ?_
        intro e w15 hp15
        unfold EvalP at hp15
        clear HEV q0 q1 q2 qf
        cases Z1 with
        | fell => exact absurd rfl hnf
        | trap i1 =>
          cases Z2 with
          | leave p2 X2 us2 => exact hq2.elim
          | fell => exact hq2.elim
          | trap i2 =>
            obtain ⟨rfl, hb15⟩ := hp15
            have HB15 := Lib.hid (HB14.out.trans ((hb15).mono HB14.out.size))
            have HE15 := Lib.hid (((hb15).block _ (Array.getElem?_eq_some_iff.1 HE14.out).1).trans HE14.out)
            have HBP15 := Lib.hid (HBP14.out.trans ((hb15).mono HBP14.out.size))
            have HS15 := Lib.hid (show StB _ _ s from HS14.out.of_block ((hb15).block _ HS14.out.lt))
            have HT15 := Lib.hid (show StB _ _ s from HT14.out.of_block ((hb15).block _ HT14.out.lt))
            have HM15 := Lib.hid (HM14.out.below (hb15))
            have HQ15 := Lib.hid (HQ14.out.below (hb15))
            clear HB14 HE14 HBP14 HS14 HT14 HM14 HQ14
            clear hb15 hq2 hnf
            have hbe1 := (Below.refl w15.heap.size w15).alloc (Nat.le_refl _) (.cells #[.bool true, .int .i64 ((i1 : Int))] 52)
            have HF16 := Lib.hid (heap_alloc_new w15 (.cells #[.bool true, .int .i64 ((i1 : Int))] 52))
            have HB16 := Lib.hid (HB15.out.trans ((hbe1).mono HB15.out.size))
            have HE16 := Lib.hid (((hbe1).block _ (Array.getElem?_eq_some_iff.1 HE15.out).1).trans HE15.out)
            have HBP16 := Lib.hid (HBP15.out.trans ((hbe1).mono HBP15.out.size))
            have HS16 := Lib.hid (show StB _ _ s from HS15.out.of_block ((hbe1).block _ HS15.out.lt))
            have HT16 := Lib.hid (show StB _ _ s from HT15.out.of_block ((hbe1).block _ HT15.out.lt))
            have HM16 := Lib.hid (HM15.out.below (hbe1))
            have HQ16 := Lib.hid (HQ15.out.below (hbe1))
            clear HB15 HE15 HBP15 HS15 HT15 HM15 HQ15
            clear hbe1
            go_upto_region 17 with fail
            generalize w15.alloc (.cells #[.bool true, .int .i64 ((i1 : Int))] 52) = W16 at *
            have HMX16 := Lib.hid ((HB16.out.cell (World.block_lt_of_cell? _ _ HM.out)).trans HM.out)
            have HSE16 := Lib.hid (HS.out.below HB16.out)
            obtain ⟨q0, q1, q2, qf⟩ := plan_cells HE16.out
            have HRN := Lib.hid (hrun_any (many := l.length) (pc := pc) (n := 1) HT16.out HQ16.out (HP9.out.below HBP16.out) HPO.out HFL.out HMX16.out HSE16.out HSF.out.2.1 HRDY.out HSF.out.2.2.1 HCT.out.1 HCT.out.2 HSF.out.2.2.2.2.2.2 ⟨by have h1 := HSZ1.out; have h2 := HN2.out.1; omega, by have h1 := HSZ1.out; have h2 := HN2.out.2.1; omega, by have h1 := HSZ1.out; have h2 := HN2.out.2.2.1; omega, by have h1 := HSZ1.out; have h2 := HN2.out.2.2.2.1; omega⟩ HN2.out.2.2.2.2 (by decide))
            rw [HZ2.out] at HRN
            clear HMX16 HSE16
            go_wp2_with fail
            refine HRN.out.mono ?_
            intro e w17 hp17
            unfold EvalP at hp17
            clear HRN q0 q1 q2 qf
            obtain ⟨rfl, hb17⟩ := hp17
            have HB17 := Lib.hid (HB16.out.trans ((hb17).mono HB16.out.size))
            have HE17 := Lib.hid (((hb17).block _ (Array.getElem?_eq_some_iff.1 HE16.out).1).trans HE16.out)
            have HBP17 := Lib.hid (HBP16.out.trans ((hb17).mono HBP16.out.size))
            have HS17 := Lib.hid (show StB _ _ s from HS16.out.of_block ((hb17).block _ HS16.out.lt))
            have HT17 := Lib.hid (show StB _ _ s from HT16.out.of_block ((hb17).block _ HT16.out.lt))
            have HM17 := Lib.hid (HM16.out.below (hb17))
            have HQ17 := Lib.hid (HQ16.out.below (hb17))
            have HF17 := Lib.hid (((hb17).block _ (Array.getElem?_eq_some_iff.1 HF16.out).1).trans HF16.out)
            clear HB16 HE16 HBP16 HS16 HT16 HM16 HQ16 HF16
            clear hb17
            have hbe2 := (Below.refl w17.heap.size w17).alloc (Nat.le_refl _) (.cells #[.bool true, .int .i64 ((i2 : Int))] 52)
            have HG18 := Lib.hid (heap_alloc_new w17 (.cells #[.bool true, .int .i64 ((i2 : Int))] 52))
            have HB18 := Lib.hid (HB17.out.trans ((hbe2).mono HB17.out.size))
            have HE18 := Lib.hid (((hbe2).block _ (Array.getElem?_eq_some_iff.1 HE17.out).1).trans HE17.out)
            have HBP18 := Lib.hid (HBP17.out.trans ((hbe2).mono HBP17.out.size))
            have HS18 := Lib.hid (show StB _ _ s from HS17.out.of_block ((hbe2).block _ HS17.out.lt))
            have HT18 := Lib.hid (show StB _ _ s from HT17.out.of_block ((hbe2).block _ HT17.out.lt))
            have HM18 := Lib.hid (HM17.out.below (hbe2))
            have HQ18 := Lib.hid (HQ17.out.below (hbe2))
            have HF18 := Lib.hid (((hbe2).block _ (Array.getElem?_eq_some_iff.1 HF17.out).1).trans HF17.out)
            clear HB17 HE17 HBP17 HS17 HT17 HM17 HQ17 HF17
            clear hbe2
            go_upto_region 18 with fail
            generalize w17.alloc (.cells #[.bool true, .int .i64 ((i2 : Int))] 52) = W18 at *
            have HX18 := Lib.hid (StB.range HS18.out)
            have HY18 := Lib.hid (StB.range HT18.out)
            obtain ⟨x0, x1⟩ := two_cells HF18.out
            obtain ⟨y0, y1⟩ := two_cells HG18.out
            have HW1 := Lib.hid (words_any HM18.out)
            have HW2 := Lib.hid (fun wx (hb : Below W18.heap.size W18 wx) => words_any (HQ18.out.below hb))
            have hi6 : (Tryz.prog.info? 26).map (·.size) = some (stL s).length := by rw [Tryz.infoSt, stL_len]
            have HI6 := Lib.hid hi6
            have heq := fun wx => eqlSt (s) wx
            have hle := HM18.out.len
            have HAL := Lib.hid (fun wx g5 g6 (h5 : Row wx g5 22 4096 (wordsG ws)) (h6 : Row wx g6 22 4096 (wordsG ws)) => alike_same ws (by rw [hle]; decide) _ _ wx (Row.argW h5 hle) (Row.argW h6 hle))
            clear hi6 x1 y1 hle
            go_upto_region 20 with fail
            generalize stL (s) = cs at *
            go_wp2_with (first
              | (refine wpList_load_want (by rfl) 26 (.tmp 17) rfl w10.heap.size 0 rfl cs _ HX18.out Tryz.underlying26 rfl HI6.out ?_)
              | (refine wpList_load_want (by rfl) 26 (.tmp 18) rfl W11.heap.size 0 rfl cs _ HY18.out Tryz.underlying26 rfl HI6.out ?_)
              | (go_at_call 14; (with_reducible refine HW1.out.mono ?_); intro e w19 hw; obtain ⟨g5, rfl, hg5, hrow5, hb19⟩ := hw; replace hrow5 := Lib.hid hrow5; replace hb19 := Lib.hid hb19)
              | (go_at_call 14; (with_reducible refine (HW2.out _ hb19.out).mono ?_); intro e w20 hw; obtain ⟨g6, rfl, hg6, hrow6, hb20⟩ := hw; replace hrow6 := Lib.hid hrow6; replace hb20 := Lib.hid hb20)
              | (go_at_call 13; (with_reducible refine (HAL.out _ _ _ (hrow5.out.of_block (hb20.out.block _ hrow5.out.lt)) hrow6.out).mono ?_); intro e w21 hw; obtain ⟨rfl, kd, rfl⟩ := hw))
            go_ret
            exact ⟨rfl, blw_drewN ((HB18.out.trans (hb19.out.mono HB18.out.size)).trans (hb20.out.mono (Nat.le_trans HB18.out.size hb19.out.size))) _⟩
        | leave p1 X1 us1 =>
          cases Z2 with
          | trap i2 => exact hq2.elim
          | fell => exact hq2.elim
          | leave p2 X2 us2 =>
            obtain ⟨rfl, hus, hxx⟩ := hq2
            subst hus
            obtain ⟨rfl, hs15, ⟨n15, hr15⟩, hk15⟩ := hp15
            have hz0 := HSZ1.out
            have hz1 := HN1.out
            have hz2 := HN2.out
            have hzm := HM13L.out
            have hzn := HM14.out.hits.lt
            have hzw := HWX.out
            have HT15 := Lib.hid (show StB _ _ s from HT14.out.kept hk15 (by omega))
            have HQ15 := Lib.hid (HQ14.out.kept hk15 (by omega) (by omega) (by omega) (by omega))
            have HS15 := Lib.hid hs15
            have HM15 := Lib.hid hr15
            have HB15 := Lib.hid (HB14.out.trans (hk15.to_below HB14.out.size (fun k hk e => by have := HB9W.out; omega)))
            have HBP15 := Lib.hid (HBP14.out.trans (hk15.to_below HBP14.out.size (fun k hk e => by omega)))
            have HE15 := Lib.hid ((hk15.same _ (Array.getElem?_eq_some_iff.1 HE14.out).1 (by have := HB89.out; omega)).trans HE14.out)
            have HFE := Lib.hid (And.intro HQ15.out.bytes.lt (And.intro HQ15.out.hits.lt HT15.out.lt))
            clear hs15 hr15 hk15 hz0 hz1 hz2 hzm hzn hzw hnf HT14 HQ14 HS14 HM14 HB14 HBP14 HE14
            have hbe1 := (Below.refl w15.heap.size w15).alloc (Nat.le_refl _) (.cells #[.bool false, .int .i64 (0)] 52)
            have HF16 := Lib.hid (heap_alloc_new w15 (.cells #[.bool false, .int .i64 (0)] 52))
            have HB16 := Lib.hid (HB15.out.trans ((hbe1).mono HB15.out.size))
            have HE16 := Lib.hid (((hbe1).block _ (Array.getElem?_eq_some_iff.1 HE15.out).1).trans HE15.out)
            have HBP16 := Lib.hid (HBP15.out.trans ((hbe1).mono HBP15.out.size))
            have HS16 := Lib.hid (show StB _ _ (leftS s X1 p1 l.length) from HS15.out.of_block ((hbe1).block _ HS15.out.lt))
            have HT16 := Lib.hid (show StB _ _ s from HT15.out.of_block ((hbe1).block _ HT15.out.lt))
            have HM16 := Lib.hid (HM15.out.below (hbe1))
            have HQ16 := Lib.hid (HQ15.out.below (hbe1))
            clear HB15 HE15 HBP15 HS15 HT15 HM15 HQ15
            clear hbe1
            go_upto_region 17 with fail
            generalize w15.alloc (.cells #[.bool false, .int .i64 (0)] 52) = W16 at *
            have HMX16 := Lib.hid ((HB16.out.cell (World.block_lt_of_cell? _ _ HM.out)).trans HM.out)
            have HSE16 := Lib.hid (HS.out.below HB16.out)
            obtain ⟨q0, q1, q2, qf⟩ := plan_cells HE16.out
            have HRN := Lib.hid (hrun_any (many := l.length) (pc := pc) (n := 1) HT16.out HQ16.out (HP9.out.below HBP16.out) HPO.out HFL.out HMX16.out HSE16.out HSF.out.2.1 HRDY.out HSF.out.2.2.1 HCT.out.1 HCT.out.2 HSF.out.2.2.2.2.2.2 ⟨by have h1 := HSZ1.out; have h2 := HN2.out.1; omega, by have h1 := HSZ1.out; have h2 := HN2.out.2.1; omega, by have h1 := HSZ1.out; have h2 := HN2.out.2.2.1; omega, by have h1 := HSZ1.out; have h2 := HN2.out.2.2.2.1; omega⟩ HN2.out.2.2.2.2 (by decide))
            rw [HZ2.out] at HRN
            clear HMX16 HSE16
            go_wp2_with fail
            refine HRN.out.mono ?_
            intro e w17 hp17
            unfold EvalP at hp17
            clear HRN q0 q1 q2 qf
            obtain ⟨rfl, hs17, ⟨n17, hr17⟩, hk17⟩ := hp17
            have hz0 := HSZ1.out
            have hz1 := HN1.out
            have hz2 := HN2.out
            have hzm := HM13L.out
            have hzq := HQ16.out.bytes.lt
            have hzr := HQ16.out.hits.lt
            have hzf := HFE.out
            have HS17 := Lib.hid (show StB _ _ (leftS s X1 p1 l.length) from HS16.out.kept hk17 (by omega))
            have HM17 := Lib.hid (HM16.out.kept hk17 (by omega) (by omega) (by omega) (by omega))
            have HT17 := Lib.hid hs17
            have HQ17 := Lib.hid hr17
            have HB17 := Lib.hid (HB16.out.trans (hk17.to_below HB16.out.size (fun k hk e => by have := HB9W.out; have := HWX.out; omega)))
            have HF17 := Lib.hid ((hk17.same _ (Array.getElem?_eq_some_iff.1 HF16.out).1 (by omega)).trans HF16.out)
            clear hs17 hr17 hk17 hz0 hz1 hz2 hzm hzq hzr hzf HT16 HQ16 HS16 HM16 HB16 HBP16 HE16 HF16
            have hbe2 := (Below.refl w17.heap.size w17).alloc (Nat.le_refl _) (.cells #[.bool false, .int .i64 (0)] 52)
            have HG18 := Lib.hid (heap_alloc_new w17 (.cells #[.bool false, .int .i64 (0)] 52))
            have HB18 := Lib.hid (HB17.out.trans ((hbe2).mono HB17.out.size))
            have HS18 := Lib.hid (show StB _ _ (leftS s X1 p1 l.length) from HS17.out.of_block ((hbe2).block _ HS17.out.lt))
            have HT18 := Lib.hid (show StB _ _ (leftS s X2 p1 l.length) from HT17.out.of_block ((hbe2).block _ HT17.out.lt))
            have HM18 := Lib.hid (HM17.out.below (hbe2))
            have HQ18 := Lib.hid (HQ17.out.below (hbe2))
            have HF18 := Lib.hid (((hbe2).block _ (Array.getElem?_eq_some_iff.1 HF17.out).1).trans HF17.out)
            clear HB17 HS17 HT17 HM17 HQ17 HF17
            clear hbe2
            go_upto_region 18 with fail
            generalize w17.alloc (.cells #[.bool false, .int .i64 (0)] 52) = W18 at *
            have HX18 := Lib.hid (StB.range HS18.out)
            have hy18 := StB.range HT18.out
            rw [stL_congr (t := leftS s X1 p1 l.length) (left_same (fun k hk => (hxx k hk).symm))] at hy18
            have HY18 := Lib.hid hy18
            clear hy18 hxx
            obtain ⟨x0, x1⟩ := two_cells HF18.out
            obtain ⟨y0, y1⟩ := two_cells HG18.out
            have HW1 := Lib.hid (words_any HM18.out)
            have HW2 := Lib.hid (fun wx (hb : Below W18.heap.size W18 wx) => words_any (HQ18.out.below hb))
            have hi6 : (Tryz.prog.info? 26).map (·.size) = some (stL (leftS s X1 p1 l.length)).length := by rw [Tryz.infoSt, stL_len]
            have HI6 := Lib.hid hi6
            have heq := fun wx => eqlSt ((leftS s X1 p1 l.length)) wx
            have hle := HM18.out.len
            have HAL := Lib.hid (fun wx g5 g6 (h5 : Row wx g5 22 4096 (wordsG us1)) (h6 : Row wx g6 22 4096 (wordsG us1)) => alike_same us1 (by rw [hle]; decide) _ _ wx (Row.argW h5 hle) (Row.argW h6 hle))
            clear hi6 x1 y1 hle
            go_upto_region 20 with fail
            generalize stL ((leftS s X1 p1 l.length)) = cs at *
            go_wp2_with (first
              | (refine wpList_load_want (by rfl) 26 (.tmp 17) rfl w10.heap.size 0 rfl cs _ HX18.out Tryz.underlying26 rfl HI6.out ?_)
              | (refine wpList_load_want (by rfl) 26 (.tmp 18) rfl W11.heap.size 0 rfl cs _ HY18.out Tryz.underlying26 rfl HI6.out ?_)
              | (go_at_call 14; (with_reducible refine HW1.out.mono ?_); intro e w19 hw; obtain ⟨g5, rfl, hg5, hrow5, hb19⟩ := hw; replace hrow5 := Lib.hid hrow5; replace hb19 := Lib.hid hb19)
              | (go_at_call 14; (with_reducible refine (HW2.out _ hb19.out).mono ?_); intro e w20 hw; obtain ⟨g6, rfl, hg6, hrow6, hb20⟩ := hw; replace hrow6 := Lib.hid hrow6; replace hb20 := Lib.hid hb20)
              | (go_at_call 13; (with_reducible refine (HAL.out _ _ _ (hrow5.out.of_block (hb20.out.block _ hrow5.out.lt)) hrow6.out).mono ?_); intro e w21 hw; obtain ⟨rfl, kd, rfl⟩ := hw))
            go_ret
            exact ⟨rfl, blw_drewN ((HB18.out.trans (hb19.out.mono HB18.out.size)).trans (hb20.out.mono (Nat.le_trans HB18.out.size hb19.out.size))) _⟩
      · rw [if_neg hr] at hp
        obtain ⟨rfl, hb4⟩ := hp
        obtain ⟨k, hk⟩ : ∃ k, regErr l = k + 1 := ⟨regErr l - 1, by omega⟩
        have hev : errV ad (regErr l) = .iface 182 (.pointer (some (ad k))) := by
          unfold errV
          rw [if_neg hr, hk, Nat.add_sub_cancel]
        rw [hev]
        have hbc := (Below.refl w4.heap.size w4).alloc (Nat.le_refl _) (.cells #[.int .u32 0, .int .i64 0, .slice none 0 0] 34)
        have HCB := Lib.hid (heap_alloc_new w4 (.cells #[.int .u32 0, .int .i64 0, .slice none 0 0] 34))
        have HB4 := Lib.hid (HB3.out.trans ((hb4.trans (hbc.mono hb4.size)).mono HB3.out.size))
        clear hbc hev hr hk hb4 HLW HF HB3 HR3
        go_upto_region 6 with fail
        generalize w4.alloc (.cells #[.int .u32 0, .int .i64 0, .slice none 0 0] 34) = W5 at *
        obtain ⟨q0, q1, q2, qf⟩ := plan_cells HCB.out
        clear q0 q1 qf
        go_wp2_with fail
        go_ret
        exact ⟨rfl, HB4.out⟩
end Go.Proofs.YtlnefmgiiogcmaaGreatDoor
