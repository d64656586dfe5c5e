/- The walk of law3's LowerEnds. Conditions: as each theorem states. -/
import Derived.Test.YtadoaldnjnkhgaaGreatDoorQ43
import Derived.Test.YtadoaldnjnkhgaaGreatDoorQ44
import Derived.Test.YtadoaldnjnkhgaaGreatDoorQ49
set_option linter.unusedVariables false
set_option linter.unusedSimpArgs false
namespace Go.Proofs.YtadoaldnjnkhgaaGreatDoor
open Go.RowKit
theorem wpList_load_want {P : Program} {ops : Array Oper} {rest : List Oper} {op : Oper} {a : Act} {w : World} {Q : Exit → Act → World → Prop} (hw : Region.wanted op (yielded ops a.tmps) = true) (ty : TypeId) (x : Operand) (ho : op.op = .load ty x)
    (b o : Nat) (hx : a.eval x = .pointer (some ⟨b, o, none⟩)) (cs : List Value) (d : TypeDesc) (hc : w.rangeAt b o cs)
    (hu : P.underlying ty = some d) (hd : d.isRow = true) (hi : (P.info? ty).map (·.size) = some cs.length)
    (h : wpList P ops Q rest (a.put op.dst (.agg cs.toArray)) w) : wpList P ops Q (op :: rest) a w :=
  wpList_step fun _ hK => by
    simp only [hw, if_true]
    exact wp_load_mid ty x ho b o hx cs d hc hu hd hi (hK _ _ h)
theorem wpStill_load_want {P : Program} {ops : Array Oper} {rest : List Oper} {op : Oper} {a : Act} {w : World} {Q : Act → Prop} (hw : Region.wanted op (yielded ops a.tmps) = true) (ty : TypeId) (x : Operand) (ho : op.op = .load ty x)
    (b o : Nat) (hx : a.eval x = .pointer (some ⟨b, o, none⟩)) (cs : List Value) (d : TypeDesc) (hc : w.rangeAt b o cs)
    (hu : P.underlying ty = some d) (hd : d.isRow = true) (hi : (P.info? ty).map (·.size) = some cs.length)
    (h : wpStill P ops w Q rest (a.put op.dst (.agg cs.toArray))) : wpStill P ops w Q (op :: rest) a :=
  wpStill_step fun K hK => by
    rw [if_pos hw]
    unfold Oper.still execOp
    simp only [ho, hx, Instr.loadAt, Instr.sureAddr, Sem.run_bind, Sem.run_pure, Result.andThen_ok, run_loadVar_mid w b o ty cs d hc hu hd hi, Oper.stillUpon]
    exact ⟨trivial, hK _ h⟩
theorem Tryz.infoPl : (Tryz.prog.info? 29).map (·.size) = some 45 := by kernel_rfl
theorem grown_w {a b : World} (h : a.grownBy b none) : Below a.heap.size a b := ⟨h.os, h.tape, h.output, h.size, fun k hk => h.block k hk (by simp)⟩
theorem three_at {w : World} {b : Nat} {t : TypeId} {a0 a1 a2 : Value} {fr : Nat × Nat} (h : w.heap[b]? = some (Obj.cells #[a0, a1, a2] t fr)) : w.cell? ⟨b, 0, none⟩ = some a0 ∧ w.cell? ⟨b, 1, none⟩ = some a1 ∧ w.cell? ⟨b, 2, none⟩ = some a2 := by
  refine ⟨?_, ?_, ?_⟩ <;> simp [World.cell?, h]
theorem rangeAt_below {w w' : World} {b o : Nat} {L : List Value} (h : w.rangeAt b o L) (hb : Below w.heap.size w w') : w'.rangeAt b o L := fun j v hv => (hb.cell (World.block_lt_of_cell? _ _ (h j v hv))).trans (h j v hv)
theorem ram_below {w w' : World} {r bw ba bh : Nat} {ws : List Int} {wt ht : Nat → Bool} (h : RamM w r bw ba bh ws wt ht) (hb : Below w.heap.size w w') : RamM w' r bw ba bh ws wt ht := { h with
  blk := (hb.block r (Array.getElem?_eq_some_iff.1 h.blk).1).trans h.blk
  words := h.words.of_block (hb.block bw h.words.lt)
  watch := h.watch.of_block (hb.block ba h.watch.lt)
  hit := h.hit.of_block (hb.block bh h.hit.lt) }
theorem regs_ok {s : StF} (h : GSOK (gsOf s)) (k : Nat) : Reg32 (regsOf s k) := by
  unfold regsOf
  split
  · exact ⟨by decide, by decide⟩
  · split
    · exact h.r k
    · split
      · exact h.hi
      · split
        · exact h.lo
        · exact ⟨by decide, by decide⟩
theorem law_ne {a b c d r bw ba bh g n : Nat} (h1 : a < b) (h2 : b < c) (h3 : c ≤ d) (h4 : d ≤ r ∧ d ≤ bw ∧ d ≤ ba ∧ d ≤ bh) (h5 : n ≤ a) (h6 : g < n) : (a ≠ r ∧ a ≠ bw ∧ a ≠ ba ∧ a ≠ bh) ∧ (g ≠ a ∧ g ≠ bw ∧ g ≠ bh) := by omega
theorem range_new (w : World) (L : List Value) (t : TypeId) : (w.alloc (.cells L.toArray t)).rangeAt w.heap.size 0 L := by
  intro j v hv
  rw [Nat.zero_add]
  simp only [World.cell?, heap_alloc_new]
  simpa using hv
theorem newS_there (w : World) : (w.alloc (.cells #[.int .u32 0, .int .u32 0, .int .u32 0, .int .u32 0, .int .u32 0, .int .u32 0, .int .u32 0, .int .u32 0, .int .u32 0, .int .u32 0, .int .u32 0, .int .u32 0, .int .u32 0, .int .u32 0, .int .u32 0, .int .u32 0, .int .u32 0, .int .u32 0, .int .u32 0, .int .u32 0, .int .u32 0, .int .u32 0, .int .u32 0, .int .u32 0, .int .u32 0, .int .u32 0, .int .u32 0, .int .u32 0, .int .u32 0, .int .u32 0, .int .u32 0, .int .u32 0, .int .u32 0, .int .u32 0, .int .u32 0, .int .u32 0, .bool false, .int .u32 0, .int .u32 0, .int .u32 0, .int .u32 0, .int .u32 0, .int .i64 0] 26)).there w.heap.size 0 43 := (StB.new w).there
theorem newS_st (w : World) (s : StF) : StB ((w.alloc (.cells #[.int .u32 0, .int .u32 0, .int .u32 0, .int .u32 0, .int .u32 0, .int .u32 0, .int .u32 0, .int .u32 0, .int .u32 0, .int .u32 0, .int .u32 0, .int .u32 0, .int .u32 0, .int .u32 0, .int .u32 0, .int .u32 0, .int .u32 0, .int .u32 0, .int .u32 0, .int .u32 0, .int .u32 0, .int .u32 0, .int .u32 0, .int .u32 0, .int .u32 0, .int .u32 0, .int .u32 0, .int .u32 0, .int .u32 0, .int .u32 0, .int .u32 0, .int .u32 0, .int .u32 0, .int .u32 0, .int .u32 0, .int .u32 0, .bool false, .int .u32 0, .int .u32 0, .int .u32 0, .int .u32 0, .int .u32 0, .int .i64 0] 26)).setCells w.heap.size 0 (stL s)) w.heap.size s := (StB.new w).put s
theorem newS_below (w : World) (s : StF) : Below w.heap.size w ((w.alloc (.cells #[.int .u32 0, .int .u32 0, .int .u32 0, .int .u32 0, .int .u32 0, .int .u32 0, .int .u32 0, .int .u32 0, .int .u32 0, .int .u32 0, .int .u32 0, .int .u32 0, .int .u32 0, .int .u32 0, .int .u32 0, .int .u32 0, .int .u32 0, .int .u32 0, .int .u32 0, .int .u32 0, .int .u32 0, .int .u32 0, .int .u32 0, .int .u32 0, .int .u32 0, .int .u32 0, .int .u32 0, .int .u32 0, .int .u32 0, .int .u32 0, .int .u32 0, .int .u32 0, .int .u32 0, .int .u32 0, .int .u32 0, .int .u32 0, .bool false, .int .u32 0, .int .u32 0, .int .u32 0, .int .u32 0, .int .u32 0, .int .i64 0] 26)).setCells w.heap.size 0 (stL s)) := ((Below.refl w.heap.size w).alloc (Nat.le_refl _) (.cells #[.int .u32 0, .int .u32 0, .int .u32 0, .int .u32 0, .int .u32 0, .int .u32 0, .int .u32 0, .int .u32 0, .int .u32 0, .int .u32 0, .int .u32 0, .int .u32 0, .int .u32 0, .int .u32 0, .int .u32 0, .int .u32 0, .int .u32 0, .int .u32 0, .int .u32 0, .int .u32 0, .int .u32 0, .int .u32 0, .int .u32 0, .int .u32 0, .int .u32 0, .int .u32 0, .int .u32 0, .int .u32 0, .int .u32 0, .int .u32 0, .int .u32 0, .int .u32 0, .int .u32 0, .int .u32 0, .int .u32 0, .int .u32 0, .bool false, .int .u32 0, .int .u32 0, .int .u32 0, .int .u32 0, .int .u32 0, .int .i64 0] 26)).trans ((Kept.setCells w.heap.size (stL s).toArray.toList (w.alloc (.cells #[.int .u32 0, .int .u32 0, .int .u32 0, .int .u32 0, .int .u32 0, .int .u32 0, .int .u32 0, .int .u32 0, .int .u32 0, .int .u32 0, .int .u32 0, .int .u32 0, .int .u32 0, .int .u32 0, .int .u32 0, .int .u32 0, .int .u32 0, .int .u32 0, .int .u32 0, .int .u32 0, .int .u32 0, .int .u32 0, .int .u32 0, .int .u32 0, .int .u32 0, .int .u32 0, .int .u32 0, .int .u32 0, .int .u32 0, .int .u32 0, .int .u32 0, .int .u32 0, .int .u32 0, .int .u32 0, .int .u32 0, .int .u32 0, .bool false, .int .u32 0, .int .u32 0, .int .u32 0, .int .u32 0, .int .u32 0, .int .i64 0] 26)) 0).to_below (by simp) (fun k hk e => by omega))
theorem steps_trap {w w' : World} {sb r bw ba bh : Nat} {wt : Nat → Bool} {x : Option (StF × BusF)} {e : Ending} (hp : StepsPost w sb r bw ba bh wt x e w') (hs : ∀ s' F', x = some (s', F') → HitAny F'.hit true) : e = .returned (.bool true) ∧ Kept (fun k => k = sb ∨ k = bw ∨ k = bh) w w' := by
  obtain ⟨hk, h⟩ := hp
  cases x with
  | none => exact ⟨h, hk⟩
  | some q =>
    obtain ⟨s', F'⟩ := q
    obtain ⟨hb, hh, he, _, _⟩ := h
    have e1 : hb = true := hh.2 ((hs s' F' rfl).1 rfl)
    subst e1
    exact ⟨he, hk⟩
theorem steps_leave {w w' : World} {sb r bw ba bh : Nat} {wt : Nat → Bool} {x : Option (StF × BusF)} {e : Ending} {s' : StF} {F' : BusF} (hp : StepsPost w sb r bw ba bh wt x e w') (hs : x = some (s', F')) (hf : HitAny F'.hit false) : e = .returned (.bool false) ∧ Kept (fun k => k = sb ∨ k = bw ∨ k = bh) w w' ∧ StB w' sb s' ∧ RamM w' r bw ba bh F'.ws wt (fun _ => false) := by
  subst hs
  obtain ⟨hk, hb, hh, he, h1, h2⟩ := hp
  have e1 : hb = false := by
    cases hb with
    | false => rfl
    | true => exact absurd (hf.2 (hh.1 rfl)) (by decide)
  subst e1
  exact ⟨he, hk, h1, h2⟩
theorem leave_ne {n g x y c d d2 d3 r1 bx ba1 bh1 r bw ba bh eb : Nat} (h : ((x < y) ∧ y < c) ∧ c < d) (h1 : d ≤ r1 ∧ d ≤ ba1 ∧ d ≤ bh1) (l1 : r1 < d2) (l2 : ba1 < d2) (l3 : bh1 < d2) (h3 : d2 ≤ r ∧ d2 ≤ bw ∧ d2 ≤ ba ∧ d2 ≤ bh) (m0 : r < d3) (m1 : bw < d3) (m2 : ba < d3) (m3 : bh < d3) (hx : d3 ≤ bx) (hbx : bx < eb) (he : d3 ≤ eb) (hn : n ≤ x) (hg : g < n) :
    (¬ (y = x ∨ y = r1) ∧ ¬ (g = x ∨ g = r1) ∧ (¬ (r = x ∨ r = r1) ∧ ¬ (bw = x ∨ bw = r1) ∧ ¬ (ba = x ∨ ba = r1) ∧ ¬ (bh = x ∨ bh = r1)) ∧ ∀ k, k < n → ¬ (k = x ∨ k = r1)) ∧
    ¬ (x = y ∨ x = bw ∨ x = bh) ∧ ¬ (eb = y ∨ eb = bw ∨ eb = bh) ∧ (∀ k, k < n → ¬ (k = y ∨ k = bw ∨ k = bh)) ∧ (¬ (r1 = y ∨ r1 = bw ∨ r1 = bh) ∧ ¬ (bx = y ∨ bx = bw ∨ bx = bh) ∧ ¬ (ba1 = y ∨ ba1 = bw ∨ ba1 = bh) ∧ ¬ (bh1 = y ∨ bh1 = bw ∨ bh1 = bh)) := by
  have e : ∀ k, k < n → ¬ (k = x ∨ k = r1) := fun k hk => by omega
  have e2 : ∀ k, k < n → ¬ (k = y ∨ k = bw ∨ k = bh) := fun k hk => by omega
  refine ⟨⟨by omega, by omega, ⟨by omega, by omega, by omega, by omega⟩, e⟩, by omega, by omega, e2, ⟨by omega, by omega, by omega, by omega⟩⟩
theorem stL_congr {s t : StF} (h : ∀ j, j < 43 → stG s j = stG t j) : stL s = stL t := List.map_congr_left (fun j hj => h j (List.mem_range.1 hj))
theorem alike_bw {w wx : World} {r bw ba bh r2 bw2 ba2 bh2 : Nat} {ws : List Int} {wt ht wt2 ht2 : Nat → Bool} (h : RamM w r bw ba bh ws wt ht) (h2 : RamM w r2 bw2 ba2 bh2 ws wt2 ht2) (hb : Below w.heap.size w wx) :
    Calls Tryz.prog 14 #[.slice (some ⟨bw, 0, none⟩) 4096 4096, .slice (some ⟨bw2, 0, none⟩) 4096 4096] wx fun e w' => e = .returned (.int .i64 1) ∧ Below wx.heap.size wx w' :=
  (alike_rams (h.below hb) (h2.below hb)).mono (by rintro e w' ⟨rfl, k, rfl⟩; exact ⟨rfl, blw_drewN (Below.refl _ _) _⟩)
theorem trap_ne {n x y c d d2 r bw ba bh eb : Nat} (h : ((x < y) ∧ y < c) ∧ c < d) (h2 : d ≤ d2) (h3 : d2 ≤ r ∧ d2 ≤ bw ∧ d2 ≤ ba ∧ d2 ≤ bh) (hn : n ≤ y) (h4 : y < eb) (h5 : bw < eb) (h6 : bh < eb) :
    ¬ (x = y ∨ x = bw ∨ x = bh) ∧ ¬ (c = y ∨ c = bw ∨ c = bh) ∧ ¬ (eb = y ∨ eb = bw ∨ eb = bh) ∧ ∀ k, k < n → ¬ (k = y ∨ k = bw ∨ k = bh) := by
  refine ⟨by omega, by omega, by omega, fun k hk => by omega⟩
set_option maxHeartbeats 8000000 in
set_option maxRecDepth 100000 in
theorem law_any {w : World} {pc mx : Int} {l : List InsN} {g o cap : Nat} {L : List Value} {lp : Bool} {ad : Nat → Addr} {s : StF} {ws : List Int} {wt : Nat → Bool}
    (hS : Sents w ad) (hm : w.cell? ⟨11, 0, none⟩ = some (.int .i64 mx)) (hl : InsAt w g o l) (hl0 : 0 < l.length) (hf : ∀ i ∈ l, i.Fits) (p0 : 0 ≤ pc) (p1 : pc < 4294967296) (hL : L.length = 45)
    (hLP : ∀ wx, Calls Tryz.prog 5 #[.agg L.toArray] wx fun e w' => e = .returned (.bool lp) ∧ Below wx.heap.size wx w')
    (hPL : ∀ wx, Calls Tryz.prog 10 #[.agg L.toArray, .int .u32 pc] wx fun e w' => e = .returned (.agg (stL s).toArray) ∧ Below wx.heap.size wx w')
    (hMO : lp = false → ∀ wx, Below w.heap.size w wx → Calls Tryz.prog 11 #[.agg L.toArray] wx fun e w' => MadeR wx ws wt (fun _ => false) e w')
    (hG : lp = false → l.length ≤ 30 → StG s ⟨ws, fun _ => false, [], 0, []⟩ l.length) (hs0 : s.r 0 = 0) (hsl : s.slot = false) (hsp : s.pc = pc) (hsn : s.next = (pc + 4) % 4294967296) (hc1 : lp = false → s.count ≤ 1099511627776) :
    Calls Tryz.prog 3 #[.int .u32 pc, .slice (some ⟨g, o, none⟩) l.length cap, .agg L.toArray] w fun e w' => e = .returned (.bool true) ∧ Below w.heap.size w w' := by
  have hb0 := (Below.refl w.heap.size w).alloc (Nat.le_refl _) (.cells L.toArray 29)
  have HR0 := Lib.hid (range_new w L 29)
  have HB0 := Lib.hid hb0
  have HZ0 : Hid (w.heap.size < (w.alloc (.cells L.toArray 29)).heap.size) := Lib.hid (by simp)
  have HLO := Lib.hid (lowered_any (hS.below hb0) ((hb0.cell (World.block_lt_of_cell? _ _ hm)).trans hm))
  have HS := Lib.hid hS
  have HM := Lib.hid hm
  have HI := Lib.hid hl
  have HGL := Lib.hid (World.block_lt_of_cell? _ _ (hl.row 0 hl0).1)
  have HF := Lib.hid hf
  have HLP := Lib.hid hLP
  have HPL := Lib.hid hPL
  have HMO := Lib.hid hMO
  have hi0 := Tryz.infoPl
  rw [← hL] at hi0
  have HIN := Lib.hid hi0
  have HL := Lib.hid hL
  have HGG := Lib.hid hG
  have HSF := Lib.hid (And.intro hs0 (And.intro hsl (And.intro hsp (And.intro hsn hc1))))
  clear hG hs0 hsl hsp hsn hc1
  clear hb0 hS hm hl hf hLP hPL hMO hi0 hL
  go_enter Tryz.func3, Tryz.ntmps3
  go_upto_region 1 with fail
  generalize w.alloc (.cells L.toArray 29) = W0 at *
  go_wp2_with fail
  refine HLO.out.mono ?_
  rintro e w1 ⟨rfl, hb1⟩
  have HB1 := Lib.hid (HB0.out.trans (hb1.mono HB0.out.size))
  have HR1 := Lib.hid (show w1.rangeAt w.heap.size 0 L from fun j v hv => (hb1.cell (World.block_lt_of_cell? _ _ (HR0.out j v hv))).trans (HR0.out j v hv))
  clear HLO hb1 HR0 HB0 HZ0
  by_cases h30 : 30 < l.length
  · have h30I : (30 : Int) < (l.length : Int) := by omega
    go_wp2_with fail
    go_ret
    exact ⟨rfl, HB1.out⟩
  · have h30I : (l.length : Int) ≤ 30 := by omega
    have hd30 : decide ((30 : Int) < (l.length : Int)) = false := decide_eq_false (by omega)
    have HN30 : Hid (l.length ≤ 30) := Lib.hid (by omega)
    cases lp with
    | true =>
      go_wp2_with (first
        | (refine wpList_load_want (by first | rfl | (rw [hd30]; rfl)) 29 (.tmp 5) rfl w.heap.size 0 rfl L _ HR1.out Tryz.underlying29 rfl HIN.out ?_)
        | (go_at_call 5; refine (HLP.out _).mono ?_; rintro e w2 ⟨rfl, hb2⟩; replace hb2 := Lib.hid hb2))
      go_ret
      exact ⟨rfl, HB1.out.trans (hb2.out.mono HB1.out.size)⟩
    | false =>
      go_upto_region 4 with (first
        | (refine wpList_load_want (by first | rfl | (rw [hd30]; rfl)) 29 (.tmp 5) rfl w.heap.size 0 rfl L _ HR1.out Tryz.underlying29 rfl HIN.out ?_)
        | (go_at_call 5; refine (HLP.out _).mono ?_; rintro e w2 ⟨rfl, hb2⟩; replace hb2 := Lib.hid hb2))
      have HB2 := Lib.hid (HB1.out.trans (hb2.out.mono HB1.out.size))
      have HR2 := Lib.hid (show w2.rangeAt w.heap.size 0 L from fun j v hv => (hb2.out.cell (World.block_lt_of_cell? _ _ (HR1.out j v hv))).trans (HR1.out j v hv))
      have HI2 := Lib.hid (HI.out.below HB2.out hl0)
      have HS2 := Lib.hid (HS.out.below HB2.out)
      obtain ⟨iI, hI1, hI2, hI3, hI4⟩ := info_parts Tryz.infoIns
      clear HB1 HR1 hb2 h30I hd30 HLP
      go_wp2_with (at_builtin; refine wpList_append_lies _ rfl (.tmp 34) (.tmp 35) 23 rfl w2.heap.size 61 iI (.agg #[.int .i64 0, .int .i64 0, .int .i64 0, .int .i64 0, .int .u32 0]) 5 40 Tryz.underlying23 hI1 hI2 hI3 hI4 rfl (by decide) _ 0 [] rfl (World.ownsRow_nil _ _ _ _) ⟨g, o, none⟩ l.length cap (l.flatMap insC) rfl (flat5_len l) (flat5_news HI2.out) (flat5_one l) hl0 (by have := HN30.out; unfold maxLen; omega) (by have := HN30.out; omega) (Nat.le_refl _) _ rfl ?_)
      intro g1 cap1 w3 hown hgrow hat hlt3
      try simp only [Nat.zero_add, List.nil_append] at hown
      try simp only [Nat.zero_add]
      obtain ⟨hi3, hg1, hty3⟩ := insAt_own hown hl0
      have hb3 := grown_w hgrow
      have HLW := Lib.hid (lower_any (cap := cap1) (vp := .slice none 0 0) HN30.out hi3 HF.out (HS2.out.below hb3) p0 p1 hty3)
      have HB3 := Lib.hid (HB2.out.trans (hb3.mono HB2.out.size))
      have HI3 := Lib.hid hi3
      have HRE : Hid (∀ wx, Below w2.heap.size w2 wx → Calls Tryz.prog 7 #[.slice (some ⟨g, o, none⟩) l.length cap] wx fun e w' => e = .returned (.int .i64 (regErr l : Int)) ∧ Below wx.heap.size wx w') := Lib.hid (fun wx hb => regionError_any HN30.out (HI2.out.below hb hl0) HF.out)
      have HB23 := Lib.hid hb3
      have HT3 := Lib.hid hty3
      have HG1 := Lib.hid (And.intro hg1 hlt3)
      have HR3 := Lib.hid (show w3.rangeAt w.heap.size 0 L from fun j v hv => (hb3.cell (World.block_lt_of_cell? _ _ (HR2.out j v hv))).trans (HR2.out j v hv))
      clear hI1 hI2 hI3 hI4 hown hgrow hat hlt3 hi3 hg1 hty3 hb3
      go_wp2_with fail
      refine HLW.out.mono ?_
      intro e w4 hp
      unfold LowerPost at hp
      by_cases hr : regErr l = 0
      · rw [if_pos hr] at hp
        have hm0 : ∀ i ∈ l, 0 ≤ i.imm := fun i hi => (HF.out i hi).m0
        have hco := lowAll_ok (pc := pc) hr hm0
        obtain ⟨ov, rfl, hown, hb4⟩ := hp
        have HEQ : Hid (lowAll pc l = lowAll pc l) := Lib.hid rfl
        obtain ⟨g2, capo, rfl, hg2, hcapo, hops⟩ := opsAt_own hown hco.ne
        clear hown
        generalize hgo : lowAll pc l = ops at *
        clear HEQ
        have HEQ := Lib.hid hgo
        have HCO := Lib.hid hco
        have hbc := (Below.refl w4.heap.size w4).alloc (Nat.le_refl _) (.cells #[.int .u32 pc, .int .i64 (l.length : Int), .slice (some ⟨g2, 0, none⟩) ops.length capo] 34)
        have hb5 := hb4.trans (hbc.mono hb4.size)
        have HCB := Lib.hid (heap_alloc_new w4 (.cells #[.int .u32 pc, .int .i64 (l.length : Int), .slice (some ⟨g2, 0, none⟩) ops.length capo] 34))
        have HRE4 : Hid (Calls Tryz.prog 7 #[.slice (some ⟨g, o, none⟩) l.length cap] (w4.alloc (.cells #[.int .u32 pc, .int .i64 (l.length : Int), .slice (some ⟨g2, 0, none⟩) ops.length capo] 34)) fun e w' => e = .returned (.int .i64 0) ∧ Below (w4.alloc (.cells #[.int .u32 pc, .int .i64 (l.length : Int), .slice (some ⟨g2, 0, none⟩) ops.length capo] 34)).heap.size (w4.alloc (.cells #[.int .u32 pc, .int .i64 (l.length : Int), .slice (some ⟨g2, 0, none⟩) ops.length capo] 34)) w') := Lib.hid ((HRE.out _ (HB23.out.trans (hb5.mono HB23.out.size))).mono (by rintro e w' ⟨rfl, h⟩; exact ⟨by rw [hr]; rfl, h⟩))
        have HB5 := Lib.hid (HB3.out.trans (hb5.mono HB3.out.size))
        have HO5 := Lib.hid (hops.below hbc hops.lt)
        have HI5 := Lib.hid (HI3.out.below hb5 hl0)
        have HN5 := Lib.hid (And.intro (show g1 < w4.heap.size by have := HG1.out.2; have := hb4.size; omega) (And.intro hops.lt (show g1 ≠ g2 by have := HG1.out.2; omega)))
        have HRR := Lib.hid hr
        have HM0 := Lib.hid hm0
        have hR3 := HR3.out
        have HR5 : Hid ((w4.alloc (.cells #[.int .u32 pc, .int .i64 (l.length : Int), .slice (some ⟨g2, 0, none⟩) ops.length capo] 34)).rangeAt w.heap.size 0 L) := Lib.hid (fun j v hv => (hb5.cell (World.block_lt_of_cell? _ _ (hR3 j v hv))).trans (hR3 j v hv))
        clear hb5 hbc hb4 hops hr hm0 hco hgo hR3 hg2 hcapo
        go_upto_region 6 with fail
        generalize (w4.alloc (.cells #[.int .u32 pc, .int .i64 (l.length : Int), .slice (some ⟨g2, 0, none⟩) ops.length capo] 34)) = W5 at *
        go_wp2_with fail
        refine HRE4.out.mono ?_
        rintro e w6 ⟨rfl, hb6⟩
        have HB6 := Lib.hid (HB5.out.trans (hb6.mono HB5.out.size))
        have hc6 := (hb6.block _ (Array.getElem?_eq_some_iff.1 HCB.out).1).trans HCB.out
        have HC6 := Lib.hid hc6
        obtain ⟨q0, q1, q2⟩ := three_at hc6
        have ho6 := HO5.out.below hb6 HO5.out.lt
        have HO6 := Lib.hid ho6
        have HI6 := Lib.hid (HI5.out.below hb6 hl0)
        have HR6 := Lib.hid (show w6.rangeAt w.heap.size 0 L from fun j v hv => (hb6.cell (World.block_lt_of_cell? _ _ (HR5.out j v hv))).trans (HR5.out j v hv))
        have HCF := Lib.hid (codeFault_ok (cap := capo) ho6 HCO.out)
        have HZ6 := Lib.hid hb6.size
        clear HB5 HRE4 HRE hc6 ho6 HO5 HI5 HR5 HCB hb6
        have hfd : ∀ wx : World, (Instr.field 45 (.agg #[.int .i64 0, .int .i64 (-1)]) 0).run Tryz.prog wx = .ok (.int .i64 0) wx := fun _ => by kernel_rfl
        go_upto_region 11 with (go_at_call 9; refine HCF.out.mono ?_; rintro e w7 ⟨rfl, hb7⟩; replace hb7 := Lib.hid hb7)
        clear hfd q0 q1 q2 HCF
        have HB7 := Lib.hid (HB6.out.trans (hb7.out.mono HB6.out.size))
        have HC7 := Lib.hid ((hb7.out.block _ (Array.getElem?_eq_some_iff.1 HC6.out).1).trans HC6.out)
        have HO7 := Lib.hid (HO6.out.below hb7.out HO6.out.lt)
        have HI7 := Lib.hid (HI6.out.below hb7.out hl0)
        have HR7 := Lib.hid (show w7.rangeAt w.heap.size 0 L from fun j v hv => (hb7.out.cell (World.block_lt_of_cell? _ _ (HR6.out j v hv))).trans (HR6.out j v hv))
        clear HB6 HC6 HO6 HI6 HR6 hb7
        go_upto_region 12 with (first
          | (refine wpList_load_mid rfl 29 (.tmp 5) rfl w.heap.size 0 rfl L _ HR7.out Tryz.underlying29 rfl HIN.out ?_)
          | (go_at_call 10; refine (HPL.out _).mono ?_; rintro e w8 ⟨rfl, hb8⟩; replace hb8 := Lib.hid hb8)
          | (refine wpList_store_mid rfl 26 (.tmp 12) (.tmp 80) rfl w8.heap.size 0 (stL s).toArray rfl rfl (by simpa [stL_len] using newS_there w8) (by rw [Tryz.infoSt]; simp [stL_len]) (stL_one s) ?_))
        have HC8 := Lib.hid (((hb8.out).block _ (Array.getElem?_eq_some_iff.1 HC7.out).1).trans HC7.out)
        have HO8 := Lib.hid (HO7.out.below (hb8.out) HO7.out.lt)
        have HI8 := Lib.hid (HI7.out.below (hb8.out) hl0)
        have HR8 := Lib.hid (rangeAt_below HR7.out (hb8.out))
        have HB8 := Lib.hid (HB7.out.trans ((hb8.out).mono HB7.out.size))
        clear HC7 HO7 HI7 HR7 HB7
        have HW8 := Lib.hid HB8.out.size
        have HS9 := Lib.hid (newS_st w8 s)
        have hn9 := newS_below w8 s
        have HC9 := Lib.hid (((hn9).block _ (Array.getElem?_eq_some_iff.1 HC8.out).1).trans HC8.out)
        have HO9 := Lib.hid (HO8.out.below (hn9) HO8.out.lt)
        have HI9 := Lib.hid (HI8.out.below (hn9) hl0)
        have HR9 := Lib.hid (rangeAt_below HR8.out (hn9))
        have HB9 := Lib.hid (HB8.out.trans ((hn9).mono HB8.out.size))
        clear HC8 HO8 HI8 HR8 HB8
        clear hn9 hb8
        have HX8 : Hid (w8.heap.size < ((w8.alloc (.cells #[.int .u32 0, .int .u32 0, .int .u32 0, .int .u32 0, .int .u32 0, .int .u32 0, .int .u32 0, .int .u32 0, .int .u32 0, .int .u32 0, .int .u32 0, .int .u32 0, .int .u32 0, .int .u32 0, .int .u32 0, .int .u32 0, .int .u32 0, .int .u32 0, .int .u32 0, .int .u32 0, .int .u32 0, .int .u32 0, .int .u32 0, .int .u32 0, .int .u32 0, .int .u32 0, .int .u32 0, .int .u32 0, .int .u32 0, .int .u32 0, .int .u32 0, .int .u32 0, .int .u32 0, .int .u32 0, .int .u32 0, .int .u32 0, .bool false, .int .u32 0, .int .u32 0, .int .u32 0, .int .u32 0, .int .u32 0, .int .i64 0] 26)).setCells w8.heap.size 0 (stL s)).heap.size) := Lib.hid (newS_st w8 s).lt
        generalize ((w8.alloc (.cells #[.int .u32 0, .int .u32 0, .int .u32 0, .int .u32 0, .int .u32 0, .int .u32 0, .int .u32 0, .int .u32 0, .int .u32 0, .int .u32 0, .int .u32 0, .int .u32 0, .int .u32 0, .int .u32 0, .int .u32 0, .int .u32 0, .int .u32 0, .int .u32 0, .int .u32 0, .int .u32 0, .int .u32 0, .int .u32 0, .int .u32 0, .int .u32 0, .int .u32 0, .int .u32 0, .int .u32 0, .int .u32 0, .int .u32 0, .int .u32 0, .int .u32 0, .int .u32 0, .int .u32 0, .int .u32 0, .int .u32 0, .int .u32 0, .bool false, .int .u32 0, .int .u32 0, .int .u32 0, .int .u32 0, .int .u32 0, .int .i64 0] 26)).setCells w8.heap.size 0 (stL s)) = W9 at *
        have HW9 := Lib.hid HB9.out.size
        have HWX : Hid (w.heap.size ≤ w8.heap.size) := Lib.hid HW8.out
        go_upto_region 13 with (first
          | (refine wpList_load_mid rfl 26 (.tmp 12) rfl w8.heap.size 0 rfl (stL s) _ (StB.range HS9.out) Tryz.underlying26 rfl (by rw [Tryz.infoSt, stL_len]) ?_)
          | (refine wpList_store_mid rfl 26 (.tmp 13) (.tmp 81) rfl W9.heap.size 0 (stL s).toArray rfl rfl (by simpa [stL_len] using newS_there W9) (by rw [Tryz.infoSt]; simp [stL_len]) (stL_one s) ?_))
        have HT10 := Lib.hid (newS_st W9 s)
        have hn10 := newS_below W9 s
        have HS10 := Lib.hid (HS9.out.of_block (hn10.block _ HS9.out.lt))
        have HC10 := Lib.hid (((hn10).block _ (Array.getElem?_eq_some_iff.1 HC9.out).1).trans HC9.out)
        have HO10 := Lib.hid (HO9.out.below (hn10) HO9.out.lt)
        have HI10 := Lib.hid (HI9.out.below (hn10) hl0)
        have HR10 := Lib.hid (rangeAt_below HR9.out (hn10))
        have HB10 := Lib.hid (HB9.out.trans ((hn10).mono HB9.out.size))
        clear HC9 HO9 HI9 HR9 HB9
        clear hn10 HS9
        have HX9 := Lib.hid (And.intro HX8.out HT10.out.lt)
        clear HX8
        generalize ((W9.alloc (.cells #[.int .u32 0, .int .u32 0, .int .u32 0, .int .u32 0, .int .u32 0, .int .u32 0, .int .u32 0, .int .u32 0, .int .u32 0, .int .u32 0, .int .u32 0, .int .u32 0, .int .u32 0, .int .u32 0, .int .u32 0, .int .u32 0, .int .u32 0, .int .u32 0, .int .u32 0, .int .u32 0, .int .u32 0, .int .u32 0, .int .u32 0, .int .u32 0, .int .u32 0, .int .u32 0, .int .u32 0, .int .u32 0, .int .u32 0, .int .u32 0, .int .u32 0, .int .u32 0, .int .u32 0, .int .u32 0, .int .u32 0, .int .u32 0, .bool false, .int .u32 0, .int .u32 0, .int .u32 0, .int .u32 0, .int .u32 0, .int .i64 0] 26)).setCells W9.heap.size 0 (stL s)) = W10 at *
        go_upto_region 14 with (first
          | (refine wpList_load_mid rfl 26 (.tmp 12) rfl w8.heap.size 0 rfl (stL s) _ (StB.range HS10.out) Tryz.underlying26 rfl (by rw [Tryz.infoSt, stL_len]) ?_)
          | (refine wpList_store_mid rfl 26 (.tmp 14) (.tmp 82) rfl W10.heap.size 0 (stL s).toArray rfl rfl (by simpa [stL_len] using newS_there W10) (by rw [Tryz.infoSt]; simp [stL_len]) (stL_one s) ?_))
        have HU11 := Lib.hid (newS_st W10 s)
        have hn11 := newS_below W10 s
        have HS11 := Lib.hid (HS10.out.of_block (hn11.block _ HS10.out.lt))
        have HT11 := Lib.hid (HT10.out.of_block (hn11.block _ HT10.out.lt))
        have HC11 := Lib.hid (((hn11).block _ (Array.getElem?_eq_some_iff.1 HC10.out).1).trans HC10.out)
        have HO11 := Lib.hid (HO10.out.below (hn11) HO10.out.lt)
        have HI11 := Lib.hid (HI10.out.below (hn11) hl0)
        have HR11 := Lib.hid (rangeAt_below HR10.out (hn11))
        have HB11 := Lib.hid (HB10.out.trans ((hn11).mono HB10.out.size))
        clear HC10 HO10 HI10 HR10 HB10
        clear hn11 HS10 HT10
        have HX10 := Lib.hid (And.intro HX9.out HU11.out.lt)
        clear HX9
        generalize ((W10.alloc (.cells #[.int .u32 0, .int .u32 0, .int .u32 0, .int .u32 0, .int .u32 0, .int .u32 0, .int .u32 0, .int .u32 0, .int .u32 0, .int .u32 0, .int .u32 0, .int .u32 0, .int .u32 0, .int .u32 0, .int .u32 0, .int .u32 0, .int .u32 0, .int .u32 0, .int .u32 0, .int .u32 0, .int .u32 0, .int .u32 0, .int .u32 0, .int .u32 0, .int .u32 0, .int .u32 0, .int .u32 0, .int .u32 0, .int .u32 0, .int .u32 0, .int .u32 0, .int .u32 0, .int .u32 0, .int .u32 0, .int .u32 0, .int .u32 0, .bool false, .int .u32 0, .int .u32 0, .int .u32 0, .int .u32 0, .int .u32 0, .int .i64 0] 26)).setCells W10.heap.size 0 (stL s)) = W11 at *
        go_upto_region 15 with (first
          | (refine wpList_load_mid rfl 29 (.tmp 5) rfl w.heap.size 0 rfl L _ HR11.out Tryz.underlying29 rfl HIN.out ?_)
          | (go_at_call 11; refine (HMO.out trivial _ HB11.out).mono ?_; rintro e w12 ⟨r1, bw1, ba1, bh1, rfl, hra1, hm1, na1, nb1, nc1, nd1⟩; replace hra1 := Lib.hid hra1; replace hm1 := Lib.hid hm1))
        have HN1 := Lib.hid (And.intro na1 (And.intro nb1 (And.intro nc1 nd1)))
        clear na1 nb1 nc1 nd1
        have HC12 := Lib.hid (((hm1.out).block _ (Array.getElem?_eq_some_iff.1 HC11.out).1).trans HC11.out)
        have HO12 := Lib.hid (HO11.out.below (hm1.out) HO11.out.lt)
        have HI12 := Lib.hid (HI11.out.below (hm1.out) hl0)
        have HR12 := Lib.hid (rangeAt_below HR11.out (hm1.out))
        have HB12 := Lib.hid (HB11.out.trans ((hm1.out).mono HB11.out.size))
        have HS12 := Lib.hid (HS11.out.of_block ((hm1.out).block _ HS11.out.lt))
        have HT12 := Lib.hid (HT11.out.of_block ((hm1.out).block _ HT11.out.lt))
        have HU12 := Lib.hid (HU11.out.of_block ((hm1.out).block _ HU11.out.lt))
        clear HC11 HO11 HI11 HR11 HB11 HS11 HT11 HU11
        go_upto_region 16 with (first
          | (refine wpList_load_mid rfl 29 (.tmp 5) rfl w.heap.size 0 rfl L _ HR12.out Tryz.underlying29 rfl HIN.out ?_)
          | (go_at_call 11; refine (HMO.out trivial _ HB12.out).mono ?_; rintro e w13 ⟨r2, bw2, ba2, bh2, rfl, hra2, hm2, na2, nb2, nc2, nd2⟩; replace hra2 := Lib.hid hra2; replace hm2 := Lib.hid hm2))
        have HN2 := Lib.hid (And.intro na2 (And.intro nb2 (And.intro nc2 nd2)))
        clear na2 nb2 nc2 nd2
        have HC13 := Lib.hid (((hm2.out).block _ (Array.getElem?_eq_some_iff.1 HC12.out).1).trans HC12.out)
        have HO13 := Lib.hid (HO12.out.below (hm2.out) HO12.out.lt)
        have HI13 := Lib.hid (HI12.out.below (hm2.out) hl0)
        have HR13 := Lib.hid (rangeAt_below HR12.out (hm2.out))
        have HB13 := Lib.hid (HB12.out.trans ((hm2.out).mono HB12.out.size))
        have HS13 := Lib.hid (HS12.out.of_block ((hm2.out).block _ HS12.out.lt))
        have HT13 := Lib.hid (HT12.out.of_block ((hm2.out).block _ HT12.out.lt))
        have HU13 := Lib.hid (HU12.out.of_block ((hm2.out).block _ HU12.out.lt))
        clear HC12 HO12 HI12 HR12 HB12 HS12 HT12 HU12
        have HRA := Lib.hid (ram_below hra1.out hm2.out)
        have hg := HGG.out trivial HN30.out
        have hpcs := HSF.out.2.2.1
        have HM1 : Hid (r1 < w12.heap.size ∧ ba1 < w12.heap.size ∧ bh1 < w12.heap.size) := Lib.hid ⟨hra1.out.lt, hra1.out.watch.lt, hra1.out.hit.lt⟩
        have HW : Hid (Ways wt l s ws) := Lib.hid (ways_any HRR.out HM0.out hg HSF.out.1 HSF.out.2.1 (by rw [HSF.out.2.2.2.1, hpcs]))
        have HEV := Lib.hid (evalOf_any (cap := capo) HS13.out HRA.out HO13.out HCO.out (regs_ok hg.g) hg.c0 (Int.le_trans (HSF.out.2.2.2.2 trivial) (by decide)))
        have HC0 := Lib.hid hg
        clear hg
        obtain ⟨q0, q1, q2⟩ := three_at HC13.out
        clear HGG
        go_wp2_with fail
        refine HEV.out.mono ?_
        intro e w14 hp
        unfold RunPost at hp
        rw [← HEQ.out, ← hpcs] at hp
        obtain ⟨k, he, hs⟩ | ⟨pcx, X, ws', s', F', he, hs, hh, hw, hgg⟩ := HW.out
        · rw [he] at hp
          obtain ⟨rfl, hb14⟩ := hp
          unfold endA
          have HST := Lib.hid hs
          clear hs he
          have HB14 := Lib.hid (HB13.out.trans (hb14.mono HB13.out.size))
          have HS14 := Lib.hid (HS13.out.of_block (hb14.block _ HS13.out.lt))
          have HT14 := Lib.hid (HT13.out.of_block (hb14.block _ HT13.out.lt))
          have HU14 := Lib.hid (HU13.out.of_block (hb14.block _ HU13.out.lt))
          have HI14 := Lib.hid (HI13.out.below hb14 hl0)
          have HRB := Lib.hid (ram_below hra2.out hb14)
          clear HB13 HS13 HT13 HU13 HI13 hb14 HEV q0 q1 q2 HC13 HO13 HR13
          go_upto_region 17 with fail
          have hbe := (Below.refl w14.heap.size w14).alloc (Nat.le_refl _) (.cells #[.bool true, .int .i64 k, .bool false] 51)
          have HE15 := Lib.hid (heap_alloc_new w14 (.cells #[.bool true, .int .i64 k, .bool false] 51))
          have HB15 := Lib.hid (HB14.out.trans (hbe.mono HB14.out.size))
          have HS15 := Lib.hid (HS14.out.of_block (hbe.block _ HS14.out.lt))
          have HU15 := Lib.hid (HU14.out.of_block (hbe.block _ HU14.out.lt))
          have hl15 := reg_list HRR.out HM0.out
          obtain ⟨hz, hz2⟩ := law_ne HX10.out.1.2 HX10.out.2 hm1.out.size HN2.out HW9.out HGL.out
          have HNE := Lib.hid (trap_ne HX10.out hm1.out.size HN2.out HW9.out HT14.out.lt HRB.out.words.lt HRB.out.hit.lt)
          have hsp := stepsOf_any (cap := cap) (HT14.out.of_block (hbe.block _ HT14.out.lt)) (ram_below HRB.out hbe) ((HI.out.below HB14.out hl0).below hbe hl0) HN30.out hl15.1 (by rw [HSF.out.2.1]; exact hl15.2) HC0.out.g HC0.out.pc HC0.out.next HC0.out.c0 (Int.le_trans (HSF.out.2.2.2.2 trivial) (by decide)) hz hz2
          have HSP := Lib.hid hsp
          clear hbe hl15 hz hz2 hsp HB14 HS14 HT14 HU14 HI14 HRB
          generalize (w14.alloc (.cells #[.bool true, .int .i64 k, .bool false] 51)) = W15 at *
          have HZ15 := Lib.hid (Array.getElem?_eq_some_iff.1 HE15.out).1
          go_wp2_with fail
          refine HSP.out.mono ?_
          intro e w16 hp
          obtain ⟨rfl, hk16⟩ := steps_trap hp HST.out
          have HE16 := Lib.hid ((hk16.same _ HZ15.out HNE.out.2.2.1).trans HE15.out)
          have HX16 := Lib.hid (StB.range (HS15.out.kept hk16 HNE.out.1))
          have HU16 := Lib.hid (StB.range (HU15.out.kept hk16 HNE.out.2.1))
          have HB16 := Lib.hid (HB15.out.trans (hk16.to_below HB15.out.size HNE.out.2.2.2))
          clear hk16 hp HSP HE15 HS15 HU15 HB15
          obtain ⟨z0, z1, z2⟩ := three_at HE16.out
          have heq := fun wx => eqlSt s wx
          have HSZ : Hid ((Tryz.prog.info? 26).map (·.size) = some (stL s).length) := Lib.hid (by rw [Tryz.infoSt, stL_len])
          generalize stL s = cs at *
          go_wp2_with (first
            | (refine wpList_load_want (by rfl) 26 (.tmp 12) rfl w8.heap.size 0 rfl cs _ HX16.out Tryz.underlying26 rfl HSZ.out ?_)
            | (refine wpList_load_want (by rfl) 26 (.tmp 14) rfl W10.heap.size 0 rfl cs _ HU16.out Tryz.underlying26 rfl HSZ.out ?_))
          go_ret
          exact ⟨rfl, HB16.out⟩
        · rw [he] at hp
          obtain ⟨rfl, hst14, ⟨bwx, hra14, hbwx⟩, hk14⟩ := hp
          unfold endA
          have HNE := Lib.hid (leave_ne (n := w.heap.size) (g := g) (bx := bwx) (eb := w14.heap.size) HX10.out ⟨HN1.out.1, HN1.out.2.2.1, HN1.out.2.2.2⟩ HM1.out.1 HM1.out.2.1 HM1.out.2.2 HN2.out hra2.out.lt hra2.out.words.lt hra2.out.watch.lt hra2.out.hit.lt hbwx hra14.words.lt hk14.below.size HWX.out HGL.out)
          have HB14 := Lib.hid (HB13.out.trans (hk14.to_below HB13.out.size HNE.out.1.2.2.2))
          have HS14 := Lib.hid hst14
          have HRC := Lib.hid hra14
          have HT14 := Lib.hid (HT13.out.kept hk14 HNE.out.1.1)
          have HI14 := Lib.hid (HI.out.below HB14.out hl0)
          have HRB := Lib.hid (hra2.out.kept hk14 HNE.out.1.2.2.1.1 HNE.out.1.2.2.1.2.1 HNE.out.1.2.2.1.2.2.1 HNE.out.1.2.2.1.2.2.2)
          have HGG := Lib.hid hgg
          have HHH := Lib.hid hh
          have HST := Lib.hid hs
          have HWW := Lib.hid hw
          clear HB13 HS13 HT13 HU13 HI13 HEV q0 q1 q2 HC13 HO13 HR13 hk14 hra14 hst14 hbwx hgg hh hs hw he
          go_upto_region 17 with fail
          have hbe := (Below.refl w14.heap.size w14).alloc (Nat.le_refl _) (.cells #[.bool false, .int .i64 0, .bool false] 51)
          have HE15 := Lib.hid (heap_alloc_new w14 (.cells #[.bool false, .int .i64 0, .bool false] 51))
          have HB15 := Lib.hid (HB14.out.trans (hbe.mono HB14.out.size))
          have HS15 := Lib.hid (HS14.out.of_block (hbe.block _ HS14.out.lt))
          have HR15 := Lib.hid (ram_below HRC.out hbe)
          have hl15 := reg_list HRR.out HM0.out
          obtain ⟨hz, hz2⟩ := law_ne HX10.out.1.2 HX10.out.2 hm1.out.size HN2.out HW9.out HGL.out
          have hsp := stepsOf_any (cap := cap) (HT14.out.of_block (hbe.block _ HT14.out.lt)) (ram_below HRB.out hbe) ((HI.out.below HB14.out hl0).below hbe hl0) HN30.out hl15.1 (by rw [HSF.out.2.1]; exact hl15.2) HC0.out.g HC0.out.pc HC0.out.next HC0.out.c0 (Int.le_trans (HSF.out.2.2.2.2 trivial) (by decide)) hz hz2
          have HSP := Lib.hid hsp
          clear hbe hl15 hz hz2 hsp HB14 HS14 HT14 HI14 HRB HRC
          generalize (w14.alloc (.cells #[.bool false, .int .i64 0, .bool false] 51)) = W15 at *
          have HZ15 := Lib.hid (Array.getElem?_eq_some_iff.1 HE15.out).1
          go_wp2_with fail
          refine HSP.out.mono ?_
          intro e w16 hp
          obtain ⟨rfl, hk16, hst16, hra16⟩ := steps_leave hp HST.out HHH.out
          have HE16 := Lib.hid ((hk16.same _ HZ15.out HNE.out.2.2.1).trans HE15.out)
          have hx16 := StB.range (HS15.out.kept hk16 HNE.out.2.1)
          have hy16 := StB.range hst16
          rw [stL_congr HGG.out] at hy16
          have hr16 := HR15.out.kept hk16 HNE.out.2.2.2.2.1 HNE.out.2.2.2.2.2.1 HNE.out.2.2.2.2.2.2.1 HNE.out.2.2.2.2.2.2.2
          rw [HWW.out] at hra16
          have HAL := Lib.hid (fun wx hb => alike_bw (wx := wx) hr16 hra16 hb)
          have HB16 := Lib.hid (HB15.out.trans (hk16.to_below HB15.out.size HNE.out.2.2.2.1))
          have heq := fun wx => eqlSt { s with r := fun k => if k = 0 then s.r 0 else X k, hi := X 32, lo := X 33, pc := pcx, next := (pcx + 4) % 4294967296, count := s.count + (l.length : Int) } wx
          have hi6 : (Tryz.prog.info? 26).map (·.size) = some (stL { s with r := fun k => if k = 0 then s.r 0 else X k, hi := X 32, lo := X 33, pc := pcx, next := (pcx + 4) % 4294967296, count := s.count + (l.length : Int) }).length := by rw [Tryz.infoSt, stL_len]
          have hu := Tryz.underlying26
          obtain ⟨z0, z1, z2⟩ := three_at HE16.out
          have HX16 := Lib.hid hx16
          have HY16 := Lib.hid hy16
          have HI6 := Lib.hid hi6
          have za := hr16.cells.1
          have zb := hra16.cells.1
          clear hk16 hp HSP HE15 HS15 HB15 HR15 hx16 hy16 hr16 hra16 hst16 z1 z2 HE16 hi6 hu
          generalize stL { s with r := fun k => if k = 0 then s.r 0 else X k, hi := X 32, lo := X 33, pc := pcx, next := (pcx + 4) % 4294967296, count := s.count + (l.length : Int) } = cs at *
          go_wp2_with fail
          refine wp_region_still_tail 17 (by kernel_rfl) (by kernel_rfl) ?_
          simp only [List.take_succ_cons, List.take_zero, List.drop_succ_cons, List.drop_zero]
          still_step
          still_step
          still_step
          still_step
          refine wpStill_load_want (by rfl) 26 (.tmp 12) rfl w8.heap.size 0 rfl cs _ HX16.out Tryz.underlying26 rfl HI6.out ?_
          refine wpStill_load_want (by rfl) 26 (.tmp 13) rfl W9.heap.size 0 rfl cs _ HY16.out Tryz.underlying26 rfl HI6.out ?_
          repeat still_step
          try refine wpStill_nil ?_
          change wpList _ _ _ _ _ w16.drew
          have HAD := Lib.hid (HAL.out w16.drew (Below.refl _ _).drew)
          have HBD := Lib.hid (show Below w.heap.size w w16.drew from HB16.out.trans ((Below.refl w16.heap.size w16).drew.mono HB16.out.size))
          clear z0 za zb HX16 HY16 HAL HB16
          generalize w16.drew = W17 at *
          go_wp2_with (go_at_call 14; refine HAD.out.mono ?_; rintro e w18 ⟨rfl, hb18⟩; replace hb18 := Lib.hid hb18)
          go_ret
          exact ⟨rfl, HBD.out.trans (hb18.out.mono HBD.out.size)⟩
      · rw [if_neg hr] at hp
        obtain ⟨rfl, hb4⟩ := hp
        obtain ⟨k, hk⟩ : ∃ k, regErr l = k + 1 := ⟨regErr l - 1, by omega⟩
        have hk10 : k < 10 := by
          have : regErr l ≤ 6 := by unfold regErr; split <;> (try split) <;> (try split) <;> omega
          omega
        have hev : errV ad (regErr l) = .iface 240 (.pointer (some (ad k))) := by
          unfold errV
          rw [if_neg hr, hk, Nat.add_sub_cancel]
        rw [hev]
        have hz : (regErr l : Int) = (k : Int) + 1 := by omega
        have h0z : (0 : Int) < (regErr l : Int) := by omega
        have hbc := (Below.refl w4.heap.size w4).alloc (Nat.le_refl _) (.cells #[.int .u32 0, .int .i64 0, .slice none 0 0] 34)
        have HCB := Lib.hid (heap_alloc_new w4 (.cells #[.int .u32 0, .int .i64 0, .slice none 0 0] 34))
        have HS4 := Lib.hid (HS2.out.below (HB23.out.trans ((hb4.trans (hbc.mono hb4.size)).mono HB23.out.size)))
        have HRE4 := Lib.hid (HRE.out (w4.alloc (.cells #[.int .u32 0, .int .i64 0, .slice none 0 0] 34)) (HB23.out.trans ((hb4.trans (hbc.mono hb4.size)).mono HB23.out.size)))
        have HB4 := Lib.hid (HB3.out.trans (((hb4.trans (hbc.mono hb4.size))).mono HB3.out.size))
        have HZ4 : Hid (w4.heap.size < (w4.alloc (.cells #[.int .u32 0, .int .i64 0, .slice none 0 0] 34)).heap.size) := Lib.hid (by simp)
        have HZ := Lib.hid hz
        generalize (regErr l : Int) = z at *
        clear hbc hev hr hk hz hb4
        go_upto_region 6 with fail
        generalize w4.alloc (.cells #[.int .u32 0, .int .i64 0, .slice none 0 0] 34) = W5 at *
        go_wp2_with fail
        refine HRE4.out.mono ?_
        rintro e w6 ⟨rfl, hb6⟩
        have HB6 := Lib.hid (HB4.out.trans (hb6.mono HB4.out.size))
        have HC6 := Lib.hid ((hb6.block _ HZ4.out).trans HCB.out)
        have HCD := Lib.hid (coded3_yes k hk10 z HZ.out ad w6 (HS4.out.below hb6))
        clear HB4 HCB HS4 HRE4 HRE hb6
        go_wp2_with fail
        refine HCD.out.mono ?_
        rintro e w7 ⟨rfl, hb7⟩
        have HB7 := Lib.hid (HB6.out.trans (hb7.mono HB6.out.size))
        obtain ⟨q0, q1, q2⟩ := three_at ((hb7.block _ (Array.getElem?_eq_some_iff.1 HC6.out).1).trans HC6.out)
        clear hb7 q0 q1
        go_wp2_with fail
        go_ret
        exact ⟨rfl, HB7.out⟩
end Go.Proofs.YtadoaldnjnkhgaaGreatDoor
