/- The walk of law3's stepsOf. The walk of ir's Leave where no store waits. The walk of ir's Eval at a code of sets and additions. Conditions: as each theorem states. -/
import Derived.Test.YtadoaldnjnkhgaaGreatDoorQ30
set_option linter.unusedVariables false
set_option linter.unusedSimpArgs false
namespace Go.Proofs.YtadoaldnjnkhgaaGreatDoor
open Go.RowKit
section
variable {w : World} {B sb b r bw ba bh : Nat} {tv : Value} {wt : Nat → Bool} {s : StF} {F : BusF}
theorem brF_next (s : StF) (F : BusF) (o S T D : Nat) (m : Int) : (brF s F o S T D m).2.2.1.next = s.next := rfl
theorem ldRes_next (s : StF) (F : BusF) (o S T : Nat) (m : Int) : (ldRes s F o S T m).2.2.1.next = s.next := by unfold ldRes; split <;> rfl
theorem stoRes_next (wt : Nat → Bool) (s : StF) (F : BusF) (o S T : Nat) (m : Int) : (stoRes wt s F o S T m).2.2.1.next = s.next := by unfold stoRes; split <;> rfl
theorem sumRes_next (s : StF) (F : BusF) (o S T D : Nat) (m : Int) : (sumRes s F o S T D m).2.2.1.next = s.next := by unfold sumRes; split <;> rfl
theorem InsR.f {i : InsN} (hi : InsR i) : InsF i.s.toNat i.t.toNat i.d.toNat i.imm := ⟨hi.ok.s, hi.ok.t, hi.ok.d, hi.m0, hi.m1⟩
theorem oneD_res {o S T D : Nat} {m : Int} {x : DoRes} {kl : List UInt8} {bb : Bool} (ho : o ≠ 45) (hK : ∀ wx, Calls Tryz.prog 24 #[.int .i64 (o : Int)] wx fun e w' => e = .returned (.string (bsl kl)) ∧ Below wx.heap.size wx w') (hkb : (kl == [98, 114, 97, 110, 99, 104]) = bb)
    (h : CM w B sb b r bw ba bh tv wt s F) (hdo : ∀ W, CM W B sb b r bw ba bh tv wt s F → Calls Tryz.prog 65 #[.pointer (some ⟨sb, 0, none⟩), .pointer (some ⟨b, 0, none⟩), insA o S T D m] W fun e w' => DoTo W B sb b r bw ba bh tv wt x e w') (hnx : Reg32 x.2.2.1.next) :
    Calls Tryz.prog 34 #[.pointer (some ⟨sb, 0, none⟩), .pointer (some ⟨b, 0, none⟩), insA o S T D m] w fun e w' => OneTo w B sb b r bw ba bh tv wt (oneF bb x) e w' := by
  obtain ⟨to, code, s1, F1⟩ := x
  exact oneD_any ho hK (by rw [bsl_toList']; exact hkb) h hdo hnx
theorem stepD_any {i : InsN} (hi : InsR i) (hk : plainOp i.o = true ∨ brOp i.o = true) (h : CM w B sb b r bw ba bh tv wt s F) (ok : StOK s F) (hsl : brOp i.o = true → s.slot = false) :
    Calls Tryz.prog 34 #[.pointer (some ⟨sb, 0, none⟩), .pointer (some ⟨b, 0, none⟩), insA i.o i.s.toNat i.t.toNat i.d.toNat i.imm] w fun e w' => OneTo w B sb b r bw ba bh tv wt (stepF wt s F i) e w' := by
  have hK := fun wx => kindOfR (i.o : Int) wx
  by_cases hb : brOp i.o = true
  · have h45 : i.o ≠ 45 := by intro e; rw [e] at hb; revert hb; decide
    rw [kindBr hb] at hK
    have hx : stepF wt s F i = oneF true (brF s F i.o i.s.toNat i.t.toNat i.d.toNat i.imm) := by unfold stepF doResOf; rw [if_pos hb, hb]
    rw [hx]
    exact oneD_res h45 hK rfl h (fun W hC => doD_branch hb hC ok hi.f (hsl hb)) (by rw [brF_next]; exact ok.next)
  · have hbf : brOp i.o = false := by simpa using hb
    have hp : plainOp i.o = true := hk.resolve_right hb
    rcases plain_split hp with ⟨hm, h1⟩ | ⟨hm, h1, h2⟩ | ⟨hm, h1, h2⟩
    · have h45 : i.o ≠ 45 := by rcases hm with e | e | e | e | e <;> rw [e] <;> decide
      rw [kindLd hm] at hK
      have hx : stepF wt s F i = oneF false (ldRes s F i.o i.s.toNat i.t.toNat i.imm) := by unfold stepF doResOf; rw [if_neg hb, if_pos h1, hbf]
      rw [hx]
      exact oneD_res h45 hK rfl h (fun W hC => doD_load (D := i.d.toNat) hm hC ok hi.f) (by rw [ldRes_next]; exact ok.next)
    · have h45 : i.o ≠ 45 := by rcases hm with e | e | e <;> rw [e] <;> decide
      rw [kindSto hm] at hK
      have hx : stepF wt s F i = oneF false (stoRes wt s F i.o i.s.toNat i.t.toNat i.imm) := by unfold stepF doResOf; rw [if_neg hb, if_neg (by rw [h1]; decide), if_pos h2, hbf]
      rw [hx]
      exact oneD_res h45 hK rfl h (fun W hC => doD_store (D := i.d.toNat) hm hC ok hi.f) (by rw [stoRes_next]; exact ok.next)
    · have h45 : i.o ≠ 45 := by intro e; rw [e] at hm; revert hm; decide
      rw [kindSum hm] at hK
      have hx : stepF wt s F i = oneF false (sumRes s F i.o i.s.toNat i.t.toNat i.d.toNat i.imm) := by unfold stepF doResOf; rw [if_neg hb, if_neg (by rw [h1]; decide), if_neg (by rw [h2]; decide), hbf]
      rw [hx]
      exact oneD_res h45 hK rfl h (fun W hC => doD_sum hm hC ok hi.f) (by rw [sumRes_next]; exact ok.next)
end
def StepsPost (w : World) (sb r bw ba bh : Nat) (wt : Nat → Bool) (x : Option (StF × BusF)) (e : Ending) (w' : World) : Prop :=
  Kept (fun k => k = sb ∨ k = bw ∨ k = bh) w w' ∧ match x with
  | none => e = .returned (.bool true)
  | some (s', F') => ∃ hb, HitAny F'.hit hb ∧ e = .returned (.bool hb) ∧ StB w' sb s' ∧ RamM w' r bw ba bh F'.ws wt (fun _ => false)
structure StepsAt (w w' : World) (B sb b r bw ba bh : Nat) (wt : Nat → Bool) (l : List InsN) (x : Option (StF × BusF)) (j : Nat) : Prop where
  ex : ∃ tv s F, CM w' B sb b r bw ba bh tv wt s F ∧ StG s F (l.length - j) ∧ okS (l.drop j) s.slot ∧ stepsF wt (l.drop j) s F = x
  kept : Kept (fun k => k = sb ∨ k = bw ∨ k = bh) w w'
theorem StB.setCount {w : World} {sb : Nat} {s : StF} (h : StB w sb s) (v : Int) : StB (w.setCell ⟨sb, 42, none⟩ (.int .i64 v)) sb { s with count := v } :=
  (Row.set h 42 (.int .i64 v)).eqv (fun j hj => by
    by_cases e : j = 42
    · subst e; rfl
    · rw [if_neg e]
      by_cases e2 : j < 32
      · unfold stG
        rw [if_pos e2, if_pos e2]
      · have hj2 : j = 32 ∨ j = 33 ∨ j = 34 ∨ j = 35 ∨ j = 36 ∨ j = 37 ∨ j = 38 ∨ j = 39 ∨ j = 40 ∨ j = 41 := by omega
        rcases hj2 with rfl | rfl | rfl | rfl | rfl | rfl | rfl | rfl | rfl | rfl <;> rfl)
theorem StB.count {w : World} {sb : Nat} {s : StF} (h : StB w sb s) : w.cell? ⟨sb, 42, none⟩ = some (.int .i64 s.count) := h.cell (show 42 < 43 by decide)
theorem step_goes {wt : Nat → Bool} {i : InsN} (hi : InsR i) (hk : plainOp i.o = true ∨ brOp i.o = true) {s : StF} {F : BusF} {n : Nat} (hg : StG s F (n + 1)) (hs : brOp i.o = true → s.slot = false) (hc : ¬ 0 ≤ (stepF wt s F i).1) (ht : (stepF wt s F i).2.2.tr = []) :
    StG { (stepF wt s F i).2.1 with count := (stepF wt s F i).2.1.count + 1 } (stepF wt s F i).2.2 n ∧ (stepF wt s F i).2.1.slot = brOp i.o ∧ (stepF wt s F i).2.1.count = s.count := by
  obtain ⟨h, hh⟩ : ∃ h, HitAny F.hit h := by
    by_cases e : ∃ p, p < 64 ∧ F.hit p = true
    · exact ⟨true, fun _ => e, fun _ => rfl⟩
    · exact ⟨false, fun h => (by cases h), fun h => absurd h e⟩
  have h1 := step_link (wt := wt) (F := F) (h := h) hi hk hg.g.r hs hg.tr hh
  cases ho : oneZ wt i (gsOf s) F.ws h with
  | none =>
    rw [ho] at h1
    rcases h1 with e | e
    · exact absurd e hc
    · exact absurd ht e
  | some x =>
    obtain ⟨g', ws', h'⟩ := x
    rw [ho] at h1
    dsimp only at h1
    have hz := oneZ_ok ⟨hi.m0, by have := hi.m1; omega⟩ hg.g hg.w ho
    have hn := step_next hi hg.g.r hg.next ho
    have c1 := hg.c1
    have c0 := hg.c0
    refine ⟨?_, by rw [h1.st]; exact hn.2.2, by rw [h1.st]⟩
    constructor
    · rw [h1.st]; exact hz.1
    · rw [h1.ws]; exact hz.2
    · rw [h1.st]; show Reg32 g'.pc; rw [hn.1]; exact hg.next
    · rw [h1.st]; exact hn.2.1
    · rw [h1.st]; show 0 ≤ s.count + 1; omega
    · rw [h1.st]; show s.count + 1 + (n : Int) ≤ _; push_cast at c1; omega
    · exact h1.tr
    · rw [h1.out]; exact hg.out
theorem stepF_count (wt : Nat → Bool) (s : StF) (F : BusF) (i : InsN) : (stepF wt s F i).2.1.count = s.count := by
  have h : (doResOf wt s F i).2.2.1.count = s.count := by
    unfold doResOf
    split
    · rfl
    · split
      · unfold ldRes; split <;> rfl
      · split
        · unfold stoRes; split <;> rfl
        · unfold sumRes; split <;> rfl
  unfold stepF oneF
  split <;> exact h
theorem tr_len {w : World} {B : Nat} {v : Value} {tr : List AccN} (h : TrO w B v tr) : ∃ p c, v = .slice p tr.length c := by
  rcases h.2 with ⟨hv, hn⟩ | ⟨g, cap, cur, hv, _⟩
  · exact ⟨none, 0, by rw [hv, hn]⟩
  · exact ⟨_, _, hv⟩
theorem insA_eq {i : InsN} (hi : InsR i) : insA i.o i.s.toNat i.t.toNat i.d.toNat i.imm = .agg #[.int .i64 i.op, .int .i64 i.s, .int .i64 i.t, .int .i64 i.d, .int .u32 i.imm] := by
  unfold insA
  rw [← hi.op, ← hi.sv, ← hi.tv, ← hi.dv]
theorem HitAny.ex (ht : Nat → Bool) : ∃ h, HitAny ht h := by
  by_cases e : ∃ p, p < 64 ∧ ht p = true
  · exact ⟨true, fun _ => e, fun _ => rfl⟩
  · exact ⟨false, fun h => (by cases h), fun h => absurd h e⟩
theorem stepsAt_start {w w1 : World} {sb b r r0 bw ba bh : Nat} {l : List InsN} {s : StF} {ws : List Int} {wt : Nat → Bool} (hs : StB w sb s) (h : RamM w r bw ba bh ws wt (fun _ => false)) (hg : StG s ⟨ws, fun _ => false, [], 0, []⟩ l.length) (hok : okS l s.slot)
    (hne : sb ≠ r ∧ sb ≠ bw ∧ sb ≠ ba ∧ sb ≠ bh) (hbk : w1.heap[b]? = some (Obj.cells #[.pointer (some ⟨r0, 0, none⟩), .string ByteArray.empty, .int .u32 0, .slice none 0 0] 96 (0, 0))) (hb0 : w.heap.size ≤ b) (hb1 : Below w.heap.size w w1) :
    StepsAt w (w1.setCell ⟨b, 0, none⟩ (.pointer (some ⟨r, 0, none⟩))) w1.heap.size sb b r bw ba bh wt l (stepsF wt l s ⟨ws, fun _ => false, [], 0, []⟩) 0 := by
  have hblt : b < w1.heap.size := (Array.getElem?_eq_some_iff.1 hbk).1
  have hsz := hb1.size
  have hK := Kept.set w1 b 0 (.pointer (some ⟨r, 0, none⟩))
  have hs1 : StB w1 sb s := hs.of_block (hb1.block sb hs.lt)
  have hr1 : RamM w1 r bw ba bh ws wt (fun _ => false) := h.kept (Kept.of_below (S := fun _ => False) hb1) id id id id
  have l1 := hs.lt
  have l2 := h.lt
  have l3 := h.words.lt
  have l4 := h.watch.lt
  have l5 := h.hit.lt
  refine ⟨⟨.slice none 0 0, s, ⟨ws, fun _ => false, [], 0, []⟩, ⟨Row.kept hs1 hK (by omega), ⟨⟨Joins.block_setCell (i := 0) hbk _, World.ownsRow_nil _ _ _ _, hblt, by rw [World.size_setCell]; omega⟩, hr1.kept hK (by omega) (by omega) (by omega) (by omega), ⟨by omega, by omega, by omega, by omega⟩, ⟨by omega, by omega, by omega, by omega⟩⟩, by omega, ⟨by omega, hne.1, hne.2.1, hne.2.2.1, hne.2.2.2⟩⟩, hg, hok, rfl⟩, ?_⟩
  exact (Kept.of_below hb1).behind hK (fun i hi e => by omega)
theorem cs_old {w w' : World} {B sb b r bw ba bh j : Nat} {wt : Nat → Bool} {l : List InsN} {X : Option (StF × BusF)} {tv : Value} {s : StF} {F : BusF} (hB : w.heap.size ≤ B) (hbB : w.heap.size ≤ b) (h : CM w' B sb b r bw ba bh tv wt s F) {k : Nat} (hk : k < w.heap.size) (e : CS sb b bw bh tv k) : k = sb ∨ k = bw ∨ k = bh := by
  rcases e with e | e | e | e | e
  · exact .inl e
  · omega
  · have := (h.bm.bus.own.block e).1; omega
  · exact .inr (.inl e)
  · exact .inr (.inr e)
set_option maxHeartbeats 4000000 in
set_option maxRecDepth 100000 in
theorem stepsOf_any {w : World} {sb r bw ba bh g o cap : Nat} {l : List InsN} {s : StF} {ws : List Int} {wt : Nat → Bool} (hs : StB w sb s) (h : RamM w r bw ba bh ws wt (fun _ => false)) (hl : InsAt w g o l) (hl30 : l.length ≤ 30)
    (hi : ∀ i ∈ l, InsR i ∧ (plainOp i.o = true ∨ brOp i.o = true)) (hok : okS l s.slot) (hg : GSOK (gsOf s)) (hpc : Reg32 s.pc) (hnx : Reg32 s.next) (c0 : 0 ≤ s.count) (c1 : s.count ≤ 1152921504606846976)
    (hne : sb ≠ r ∧ sb ≠ bw ∧ sb ≠ ba ∧ sb ≠ bh) (hgn : g ≠ sb ∧ g ≠ bw ∧ g ≠ bh) :
    Calls Tryz.prog 13 #[.slice (some ⟨g, o, none⟩) l.length cap, .pointer (some ⟨sb, 0, none⟩), .pointer (some ⟨r, 0, none⟩)] w fun e w' => StepsPost w sb r bw ba bh wt (stepsF wt l s ⟨ws, fun _ => false, [], 0, []⟩) e w' := by
  have HNB := Lib.hid (newBus_any w)
  have HS := Lib.hid hs
  have HR := Lib.hid h
  have HL := Lib.hid hl
  have HI := Lib.hid hi
  have HG := Lib.hid (show StG s ⟨ws, fun _ => false, [], 0, []⟩ l.length from ⟨hg, h.ok, hpc, hnx, c0, by omega, rfl, Nat.zero_le _⟩)
  have HOK := Lib.hid hok
  have HNE := Lib.hid hne
  have HGN := Lib.hid hgn
  have l30 : (l.length : Int) ≤ 30 := by omega
  clear hs h hl hi hok hg hpc hnx c0 c1 hne hgn hl30
  go_enter Tryz.func13, Tryz.ntmps13
  go_wp2_with fail
  refine HNB.out.mono ?_
  intro e w1 hm
  obtain ⟨b, r0, rfl, hbk, hb0, hb1⟩ := hm
  have hB1 := hb1.size
  have hblt : b < w1.heap.size := (Array.getElem?_eq_some_iff.1 hbk).1
  have HA0 := Lib.hid (stepsAt_start HS.out HR.out HG.out HOK.out HNE.out hbk hb0 hb1)
  have hw0 : w1.cell? ⟨b, 0, none⟩ = some (.pointer (some ⟨r0, 0, none⟩)) := by simp [World.cell?, hbk]
  have hf0 : w1.frozen? ⟨b, 0, none⟩ = false := by simp [World.frozen?, hbk]
  have HBB := Lib.hid (And.intro hb1.size hb0)
  clear hbk hb0 hb1 hB1 hblt HS HOK HG
  generalize hX : stepsF wt l s ⟨ws, fun _ => false, [], 0, []⟩ = X at *
  have HX := Lib.hid hX
  clear hX
  go_wp2_with fail
  clear hw0 hf0
  generalize w1.setCell ⟨b, 0, none⟩ (.pointer (some ⟨r, 0, none⟩)) = W2 at *
  generalize w1.heap.size = B at *
  go_loopw [6, 8] (fun v6 v8 wr => ∃ j : Nat, j ≤ l.length ∧ v6 = .bool false ∧ v8 = .int .i64 (j : Int) ∧ Hid (StepsAt w wr B sb b r bw ba bh wt l X j)) (fun _ v _ => l.length - (intOf v).toNat)
  case atStart => exact ⟨0, Nat.zero_le _, rfl, rfl, HA0⟩
  case round =>
    obtain ⟨j, hj, rfl, rfl, HA⟩ := hrel
    obtain ⟨⟨tv, sj, Fj, hcm, hgj, hokj, hxj⟩, hkj⟩ := HA.out
    have HCM := Lib.hid hcm
    have HGJ := Lib.hid hgj
    have HXJ := Lib.hid hxj
    have HKJ := Lib.hid hkj
    by_cases hlt : j < l.length
    · have hjI : (j : Int) < (l.length : Int) := by omega
      have HLT := Lib.hid hlt
      have hia : InsAt wr g o l := HL.out.of_block (hkj.same g (World.block_lt_of_cell? _ _ (HL.out.row 0 (by omega)).1) (fun e => by have := HGN.out; omega))
      obtain ⟨c0, c1, c2, c3, c4⟩ := hia.row j hlt
      obtain ⟨hi, hk⟩ := HI.out (l[j]'hlt) (List.getElem_mem hlt)
      rw [List.drop_eq_getElem_cons hlt] at hokj hxj
      have hstep := stepD_any (w := wr) hi hk hcm hgj.ok hokj.1
      rw [insA_eq hi] at hstep
      have hgo := fun n hg => step_goes (wt := wt) (n := n) hi hk (hg : StG sj Fj (n + 1)) hokj.1
      have HGO := Lib.hid hgo
      have HSTEP := Lib.hid hstep
      have HOK2 := Lib.hid hokj.2
      have HXJ2 := Lib.hid hxj
      clear hstep hokj hxj hi hk hcm hgj hkj hia hgo HXJ
      obtain ⟨i, hie⟩ : ∃ i, l[j]'hlt = i := ⟨_, rfl⟩
      rw [hie] at c0 c1 c2 c3 c4 HSTEP HOK2 HXJ2 HGO
      clear hie hlt
      obtain ⟨x, hxe⟩ : ∃ x, stepF wt sj Fj i = x := ⟨_, rfl⟩
      have HXE := Lib.hid hxe
      rw [hxe] at HSTEP HGO
      clear hxe
      go_wp2_with fail
      refine HSTEP.out.mono ?_
      intro e w2 hst
      obtain ⟨rfl, tv2, hcm2, hk2, -⟩ := hst
      have HCM2 := Lib.hid hcm2
      have hkk : Kept (fun k => k = sb ∨ k = bw ∨ k = bh) w w2 := HKJ.out.behind hk2 (fun k hk e => cs_old (X := X) (l := l) (j := j) HBB.out.1 HBB.out.2 HCM.out hk e)
      have HK2 := Lib.hid hkk
      clear hcm2 hk2 hkk c0 c1 c2 c3 c4 HA
      by_cases hc : 0 ≤ x.1
      · have hd : decide (0 ≤ x.1) = true := decide_eq_true hc
        have hXn : X = none := by rw [← HXJ2.out, stepsF, HXE.out, if_pos hc]
        have HXN := Lib.hid hXn
        clear hc hXn
        go_wp2
        go_ret
        refine ⟨HK2.out, ?_⟩
        rw [HX.out, HXN.out]
        rfl
      · have hd : decide (0 ≤ x.1) = false := decide_eq_false hc
        have HC := Lib.hid hc
        have hxc : x.2.1.count = sj.count := by rw [← HXE.out]; exact stepF_count _ _ _ _
        have hw64 : IntKind.i64.wrap (x.2.1.count + 1) = x.2.1.count + 1 := IntWalk.i64_in _ ⟨by have := HGJ.out.c0; omega, by have := HGJ.out.c1; have := HLT.out; omega⟩
        have hw65 : wrap64 (x.2.1.count + 1) = x.2.1.count + 1 := IntWalk.wrap64_in _ ⟨by have := HGJ.out.c0; omega, by have := HGJ.out.c1; have := HLT.out; omega⟩
        have HXC := Lib.hid hxc
        clear hxc
        have hct := HCM2.out.st.count
        have hcf := HCM2.out.st.free 42
        have HS3 := Lib.hid (HCM2.out.st.setCount (x.2.1.count + 1))
        have HCM3 := Lib.hid (HCM2.out.state (HCM2.out.st.setCount (x.2.1.count + 1)) (Kept.set w2 sb 42 (.int .i64 (x.2.1.count + 1))))
        have HK3 := Lib.hid (HK2.out.trans ((Kept.set w2 sb 42 (.int .i64 (x.2.1.count + 1))).mono (fun k e => .inl e)))
        clear hc
        obtain ⟨tp, tc, htv⟩ := tr_len HCM3.out.bm.bus.own
        have htc := HCM3.out.bm.bus.bus.cells.2.2.2
        rw [htv] at htc
        have HTV := Lib.hid htv
        clear htv
        by_cases htr : x.2.2.tr = []
        · have hlen0 : x.2.2.tr.length = 0 := by rw [htr]; rfl
          rw [hlen0] at htc
          have HTR := Lib.hid htr
          have hnext := HGO.out (l.length - (j + 1)) (by have := HGJ.out; have := HLT.out; rwa [show l.length - (j + 1) + 1 = l.length - j by omega]) (by have := HC.out; omega) htr
          have HNX := Lib.hid hnext
          clear htr hlen0 hnext
          go_wp2_with fail
          go_roundw
          case rel =>
            refine ⟨j + 1, by have := HLT.out; omega, rfl, by go_num, Lib.hid ⟨⟨tv2, _, _, HCM3.out, HNX.out.1, ?_, ?_⟩, HK3.out⟩⟩
            · have := HOK2.out
              rw [← HNX.out.2.1] at this
              exact this
            · rw [← HXJ2.out, stepsF, HXE.out, if_neg (by have := HC.out; omega), if_neg (fun e => e HTR.out)]
          case measure => have := HLT.out; go_light; simp [intOf]; omega
        · have hpos : 0 < x.2.2.tr.length := List.length_pos_iff.2 htr
          have hd2 : decide ((0 : Int) < (x.2.2.tr.length : Int)) = true := decide_eq_true (by omega)
          have hpI : (0 : Int) < (x.2.2.tr.length : Int) := by omega
          have hXn : X = none := by rw [← HXJ2.out, stepsF, HXE.out, if_neg (by have := HC.out; omega), if_pos htr]
          have HXN := Lib.hid hXn
          clear htr hpos hXn
          go_wp2
          go_ret
          refine ⟨HK3.out, ?_⟩
          rw [HX.out, HXN.out]
          rfl
    · obtain rfl : j = l.length := by omega
      have hd : decide ((l.length : Int) < (l.length : Int)) = false := decide_eq_false (by omega)
      have HH := Lib.hid (hits_any hcm.bm.ram)
      rw [List.drop_length] at hxj
      have HXE := Lib.hid (show X = some (sj, Fj) from hxj.symm)
      clear hcm hgj hokj hxj hkj hlt HXJ HA
      go_wp2_with fail
      refine HH.out.mono ?_
      intro e w2 hm
      obtain ⟨ov, lv, rfl, hit⟩ := hm
      obtain ⟨op, oc, hov⟩ : ∃ p c, ov = .slice p lv.length c := by
        rcases hit.own.2 with ⟨hv, hn⟩ | ⟨g, cap, cur, hv, _⟩
        · exact ⟨none, 0, by rw [hv, hn]⟩
        · exact ⟨_, _, hv⟩
      subst hov
      have hR2 : RamM w2 r bw ba bh Fj.ws wt (fun _ => false) := hit.ram.eqHit (fun j hj => by rw [if_pos hj])
      have hS2 : StB w2 sb sj := Row.kept HCM.out.st hit.kept (fun e => HNE.out.2.2.2 e)
      have hK2 : Kept (fun k => k = sb ∨ k = bw ∨ k = bh) w w2 := HKJ.out.trans (hit.kept.mono (fun k e => .inr (.inr e)))
      have hany : HitAny Fj.hit (decide (0 < lv.length)) := by
        unfold HitAny
        rw [decide_eq_true_eq]
        constructor
        · intro hp
          refine Classical.byContradiction (fun hn => ?_)
          have : lv = [] := hit.nil.2 (fun j hj => by
            cases e : Fj.hit j
            · rfl
            · exact absurd ⟨j, hj, e⟩ hn)
          rw [this] at hp
          exact absurd hp (by decide)
        · rintro ⟨p, hp, e⟩
          refine Classical.byContradiction (fun hn => ?_)
          have h0 : lv = [] := List.length_eq_zero_iff.1 (by omega)
          rw [hit.nil.1 h0 p hp] at e
          cases e
      have HF := Lib.hid (And.intro hR2 (And.intro hS2 (And.intro hK2 hany)))
      have l64 : (lv.length : Int) ≤ 64 := by have := hit.short; omega
      clear hit hR2 hS2 hK2 hany
      generalize lv.length = n at *
      go_wp2
      go_ret
      refine ⟨HF.out.2.2.1, ?_⟩
      rw [HX.out, HXE.out]
      exact ⟨_, HF.out.2.2.2, rfl, HF.out.2.1, HF.out.1⟩
end Go.Proofs.YtadoaldnjnkhgaaGreatDoor
namespace Go.Proofs.YtadoaldnjnkhgaaGreatDoor
open Go.RowKit
def leftS (s : StF) (X : Regs) (pc : Int) (many : Nat) : StF := { s with r := fun k => if k < 32 then X k else s.r k, hi := X 32, lo := X 33, pc := pc, next := (pc + 4) % 4294967296, count := s.count + (many : Int) }
section
variable {s : StF} {X : Regs}
theorem MpB.drew {w : World} {b : Nat} {X : Regs} {rv wv : Value} (h : MpB w b X rv wv) : MpB w.drew b X rv wv := h.of_block rfl
set_option maxHeartbeats 4000000 in
set_option maxRecDepth 100000 in
theorem leaveP_any {w : World} {sb mb many : Nat} {pc : Int} {rv : Value} (hs : StB w sb s) (hm : MpB w mb X rv (.slice none 0 0)) (hne : sb ≠ mb) (c0 : 0 ≤ s.count) (c1 : s.count ≤ 4611686018427387904) (hmany : many ≤ 24) :
    Calls Tryz.prog 41 #[.pointer (some ⟨mb, 0, none⟩), .pointer (some ⟨sb, 0, none⟩), .int .u32 pc, .int .i64 (many : Int)] w fun e w' => e = .returned (.tuple #[]) ∧ StB w' sb (leftS s X pc many) ∧ Kept (fun k => k = sb) w w' := by
  have HS1 := Lib.hid (StB.drew hs)
  have HM1 := Lib.hid (MpB.drew hm)
  have HK1 := Lib.hid (Kept.of_below (S := fun k => k = sb) (Below.refl w.heap.size w).drew)
  have HNE : Hid (mb ≠ sb) := Lib.hid (fun e => hne e.symm)
  have hcw : IntKind.i64.wrap (s.count + (many : Int)) = s.count + (many : Int) := IntWalk.i64_in _ ⟨by omega, by omega⟩
  have hcw2 : wrap64 (s.count + (many : Int)) = s.count + (many : Int) := IntWalk.wrap64_in _ ⟨by omega, by omega⟩
  clear hs hm hne c0 c1 hmany
  go_enter Tryz.func41, Tryz.ntmps41
  go_wp2_with fail
  go_still_tail 8, (by kernel_rfl)
  change wpList _ _ _ _ _ w.drew
  generalize w.drew = W1 at *
  refine wpList_copy_row rfl (.tmp 13) (.tmp 17) 27 27 rfl 22 Tryz.underlying27 Tryz.infoU32 sb 0 32 32 ⟨mb, 0, none⟩ 32 64 rfl rfl 26 43 _ HS1.out (regL X 32) (by rw [regL_len]; rfl) ?_ (by rw [regL_len]; decide) ?_ ?_
  · intro j v hj
    have hlt : j < 32 := by have := (List.getElem?_eq_some_iff.1 hj).1; rwa [regL_len] at this
    rw [regL_at X hlt] at hj
    cases hj
    rw [addr_add]
    exact HM1.out.reg (by omega)
  · intro v hv
    obtain ⟨k, _, rfl⟩ := List.mem_map.1 hv
    rfl
  intro w2 hR2 hK2
  have HS2 := Lib.hid (show StB w2 sb { s with r := fun k => if k < 32 then X k else s.r k } from hR2.eqv (fun k hk => by
    rw [regL_len]
    by_cases e : k < 32
    · have h1 : 0 ≤ k ∧ k < 0 + 32 := ⟨Nat.zero_le _, by omega⟩
      rw [if_pos h1, Nat.sub_zero, List.getD_eq_getElem?_getD, regL_at X e]
      unfold stG
      rw [if_pos e]
      simp [e]
    · have h1 : ¬ (0 ≤ k ∧ k < 0 + 32) := by omega
      rw [if_neg h1]
      unfold stG
      rw [if_neg e, if_neg e]))
  have HM2 := Lib.hid (show MpB w2 mb X rv (.slice none 0 0) from Row.kept HM1.out hK2 HNE.out)
  have HK2 := Lib.hid (HK1.out.trans hK2)
  clear hR2 hK2 HS1 HM1 HK1
  go_wp2_with fail
  have a0 : w2.cell? ⟨mb, 32, none⟩ = some (.int .u32 (X 32)) := HM2.out.reg (show 32 < 64 by decide)
  have a1 : w2.cell? ⟨mb, 33, none⟩ = some (.int .u32 (X 33)) := HM2.out.reg (show 33 < 64 by decide)
  have HS3 := Lib.hid ((StB.drew HS2.out).setHi (X 32))
  have HS4 := Lib.hid (HS3.out.setLo (X 33))
  have HM4 := Lib.hid (show MpB ((w2.drew.setCell ⟨sb, 32, none⟩ (.int .u32 (X 32))).setCell ⟨sb, 33, none⟩ (.int .u32 (X 33))) mb X rv (.slice none 0 0) from Row.kept (Row.kept (MpB.drew HM2.out) (Kept.set w2.drew sb 32 _) HNE.out) (Kept.set _ sb 33 _) HNE.out)
  have HK4 := Lib.hid (((HK2.out.trans (Kept.of_below (Below.refl _ w2).drew)).trans (Kept.set w2.drew sb 32 (.int .u32 (X 32)))).trans (Kept.set _ sb 33 (.int .u32 (X 33))))
  have z0 : w2.cell? ⟨sb, 32, none⟩ = some _ := HS2.out.cell (show 32 < 43 by decide)
  have z0f := HS2.out.free 32
  have z1 : w2.cell? ⟨sb, 33, none⟩ = some _ := HS2.out.cell (show 33 < 43 by decide)
  have z1f := HS2.out.free 33
  simp only [stG] at z0 z1
  clear HS2 HM2 HK2
  refine wp_region_held_drew (S := fun w' => (w'.cell? ⟨mb, 32, none⟩ = some (.int .u32 (X 32)) ∧ w'.cell? ⟨mb, 33, none⟩ = some (.int .u32 (X 33)))) (by kernel_rfl) ?_ (fun hHeld0 => ?_)
  · exact ⟨a0, a1⟩
  refine wpAnyH_take (i := 0) (v := ?_) rfl (by kernel_rfl) (by kernel_rfl) (by kernel_rfl) (fun _ _ _ h => h) (Or.inl ⟨by kernel_rfl, ?_⟩) (by assumption) ?_
  rotate_left
  · (intro wq hSq; (try dsimp only at hSq); go_simp; try with_reducible rfl)
  (try simp only [List.getElem_toArray, List.getElem_cons_succ, List.getElem_cons_zero, Act.put, List.setIfInBounds_toArray, List.set_cons_zero, List.set_cons_succ])
  refine wpAnyH_take (i := 1) (v := ?_) rfl (by kernel_rfl) (by kernel_rfl) (by kernel_rfl) (fun _ _ _ h => h) (Or.inl ⟨by kernel_rfl, ?_⟩) (by assumption) ?_
  rotate_left
  · (intro wq hSq; (try dsimp only at hSq); go_simp; try with_reducible rfl)
  (try simp only [List.getElem_toArray, List.getElem_cons_succ, List.getElem_cons_zero, Act.put, List.setIfInBounds_toArray, List.set_cons_zero, List.set_cons_succ])
  refine wpAnyH_take (i := 2) (v := ?_) rfl (by kernel_rfl) (by kernel_rfl) (by kernel_rfl) (fun _ _ _ h => h) (Or.inl ⟨by kernel_rfl, ?_⟩) (by assumption) ?_
  rotate_left
  · (intro wq hSq; (try dsimp only at hSq); go_simp; try with_reducible rfl)
  (try simp only [List.getElem_toArray, List.getElem_cons_succ, List.getElem_cons_zero, Act.put, List.setIfInBounds_toArray, List.set_cons_zero, List.set_cons_succ])
  refine wpAnyH_take (i := 3) (v := ?_) rfl (by kernel_rfl) (by kernel_rfl) (by kernel_rfl) (fun _ _ _ h => h) (Or.inl ⟨by kernel_rfl, ?_⟩) (by assumption) ?_
  rotate_left
  · (intro wq hSq; (try dsimp only at hSq); go_simp; try with_reducible rfl)
  (try simp only [List.getElem_toArray, List.getElem_cons_succ, List.getElem_cons_zero, Act.put, List.setIfInBounds_toArray, List.set_cons_zero, List.set_cons_succ])
  refine wpAnyH_take (i := 4) (v := ?_) rfl (by kernel_rfl) (by kernel_rfl) (by kernel_rfl) (fun _ _ _ h => h) (Or.inl ⟨by kernel_rfl, ?_⟩) (by assumption) ?_
  rotate_left
  · (intro wq hSq; (try dsimp only at hSq); go_simp; try with_reducible rfl)
  (try simp only [List.getElem_toArray, List.getElem_cons_succ, List.getElem_cons_zero, Act.put, List.setIfInBounds_toArray, List.set_cons_zero, List.set_cons_succ])
  refine wpAnyH_take (i := 5) (v := ?_) rfl (by kernel_rfl) (by kernel_rfl) (by kernel_rfl) (fun _ _ _ h => h) (Or.inl ⟨by kernel_rfl, ?_⟩) (by assumption) ?_
  rotate_left
  · (intro wq hSq; (try dsimp only at hSq); go_simp; try with_reducible rfl)
  (try simp only [List.getElem_toArray, List.getElem_cons_succ, List.getElem_cons_zero, Act.put, List.setIfInBounds_toArray, List.set_cons_zero, List.set_cons_succ])
  refine wpAnyH_take (i := 6) (v := ?_) rfl (by kernel_rfl) (by kernel_rfl) (by kernel_rfl) (fun _ _ _ h => h) (Or.inl ⟨by kernel_rfl, ?_⟩) (by assumption) ?_
  rotate_left
  · (intro wq hSq; (try dsimp only at hSq); go_simp; try with_reducible rfl)
  (try simp only [List.getElem_toArray, List.getElem_cons_succ, List.getElem_cons_zero, Act.put, List.setIfInBounds_toArray, List.set_cons_zero, List.set_cons_succ])
  refine wpAnyH_take (i := 7) (v := ?_) rfl (by kernel_rfl) (by kernel_rfl) (by kernel_rfl) (fun _ _ _ h => h) (Or.inl ⟨by kernel_rfl, ?_⟩) (by assumption) ?_
  rotate_left
  · (intro wq hSq; (try dsimp only at hSq); go_simp; try with_reducible rfl)
  (try simp only [List.getElem_toArray, List.getElem_cons_succ, List.getElem_cons_zero, Act.put, List.setIfInBounds_toArray, List.set_cons_zero, List.set_cons_succ])
  refine wpAnyH_take (i := 8) (v := ?_) rfl (by kernel_rfl) (by kernel_rfl) (by kernel_rfl) (fun _ _ _ h => h) (Or.inl ⟨by kernel_rfl, ?_⟩) (by assumption) ?_
  rotate_left
  · (intro wq hSq; (try dsimp only at hSq); go_simp; try with_reducible rfl)
  (try simp only [List.getElem_toArray, List.getElem_cons_succ, List.getElem_cons_zero, Act.put, List.setIfInBounds_toArray, List.set_cons_zero, List.set_cons_succ])
  refine wpAnyH_take (i := 9) (v := ?_) rfl (by kernel_rfl) (by kernel_rfl) (by kernel_rfl) (fun _ _ _ h => h) (Or.inl ⟨by kernel_rfl, ?_⟩) (by assumption) ?_
  rotate_left
  · (intro wq hSq; (try dsimp only at hSq); go_simp; try with_reducible rfl)
  (try simp only [List.getElem_toArray, List.getElem_cons_succ, List.getElem_cons_zero, Act.put, List.setIfInBounds_toArray, List.set_cons_zero, List.set_cons_succ])
  refine wpAnyH_take (i := 10) (v := ?_) rfl (by kernel_rfl) (by kernel_rfl) (by kernel_rfl) (fun _ _ _ h => h) (Or.inl ⟨by kernel_rfl, ?_⟩) (by assumption) ?_
  rotate_left
  · (intro wq hSq; (try dsimp only at hSq); go_simp; try with_reducible rfl)
  (try simp only [List.getElem_toArray, List.getElem_cons_succ, List.getElem_cons_zero, Act.put, List.setIfInBounds_toArray, List.set_cons_zero, List.set_cons_succ])
  refine wpAnyH_take (i := 11) (v := ?_) rfl (by kernel_rfl) (by kernel_rfl) (by kernel_rfl) (fun _ _ _ h => h) (Or.inl ⟨by kernel_rfl, ?_⟩) (by assumption) ?_
  rotate_left
  · (intro wq hSq; (try dsimp only at hSq); go_simp; try with_reducible rfl)
  (try simp only [List.getElem_toArray, List.getElem_cons_succ, List.getElem_cons_zero, Act.put, List.setIfInBounds_toArray, List.set_cons_zero, List.set_cons_succ])
  refine wpAnyH_take (i := 12) (v := ?_) rfl (by kernel_rfl) (by kernel_rfl) (by kernel_rfl) (fun _ _ _ h => h) (Or.inl ⟨by kernel_rfl, ?_⟩) (by assumption) ?_
  rotate_left
  · (intro wq hSq; (try dsimp only at hSq); go_simp; try with_reducible rfl)
  (try simp only [List.getElem_toArray, List.getElem_cons_succ, List.getElem_cons_zero, Act.put, List.setIfInBounds_toArray, List.set_cons_zero, List.set_cons_succ])
  refine wpAnyH_take (i := 13) (v := ?_) rfl (by kernel_rfl) (by kernel_rfl) (by kernel_rfl) (fun _ _ _ h => h) (Or.inl ⟨by kernel_rfl, ?_⟩) (by assumption) ?_
  rotate_left
  · (intro wq hSq; (try dsimp only at hSq); go_simp; try with_reducible rfl)
  (try simp only [List.getElem_toArray, List.getElem_cons_succ, List.getElem_cons_zero, Act.put, List.setIfInBounds_toArray, List.set_cons_zero, List.set_cons_succ])
  refine wpAnyH_ready (rs := [14]) (by kernel_rfl) (by simp) ?_
  refine AllReadyH.cons rfl (fun K9 hK9 => ?_) AllReadyH.nil
  go_simp
  refine hK9.out _ _ ?_ (fun hHeld1 => ?_)
  · exact ⟨(cell_setCell_block _ _ _ _ HNE.out).trans hHeld0.1, (cell_setCell_block _ _ _ _ HNE.out).trans hHeld0.2⟩
  clear hK9 K9
  (try simp only [List.getElem_toArray, List.getElem_cons_succ, List.getElem_cons_zero, Act.put, List.setIfInBounds_toArray, List.set_cons_zero, List.set_cons_succ])
  refine wpAnyH_take (i := 15) (v := ?_) rfl (by kernel_rfl) (by kernel_rfl) (by kernel_rfl) (fun _ _ _ h => h) (Or.inl ⟨by kernel_rfl, ?_⟩) (by assumption) ?_
  rotate_left
  · (intro wq hSq; (try dsimp only at hSq); go_simp; try with_reducible rfl)
  (try simp only [List.getElem_toArray, List.getElem_cons_succ, List.getElem_cons_zero, Act.put, List.setIfInBounds_toArray, List.set_cons_zero, List.set_cons_succ])
  refine wpAnyH_take (i := 16) (v := ?_) rfl (by kernel_rfl) (by kernel_rfl) (by kernel_rfl) (fun _ _ _ h => h) (Or.inl ⟨by kernel_rfl, ?_⟩) (by assumption) ?_
  rotate_left
  · (intro wq hSq; (try dsimp only at hSq); go_simp; try with_reducible rfl)
  (try simp only [List.getElem_toArray, List.getElem_cons_succ, List.getElem_cons_zero, Act.put, List.setIfInBounds_toArray, List.set_cons_zero, List.set_cons_succ])
  refine wpAnyH_ready (rs := [17]) (by kernel_rfl) (by simp) ?_
  refine AllReadyH.cons rfl (fun K9 hK9 => ?_) AllReadyH.nil
  go_simp
  refine hK9.out _ _ ?_ (fun hHeld2 => ?_)
  · exact ⟨(cell_setCell_block _ _ _ _ HNE.out).trans hHeld1.1, (cell_setCell_block _ _ _ _ HNE.out).trans hHeld1.2⟩
  clear hK9 K9
  (try simp only [List.getElem_toArray, List.getElem_cons_succ, List.getElem_cons_zero, Act.put, List.setIfInBounds_toArray, List.set_cons_zero, List.set_cons_succ])
  refine wpAnyH_done (by kernel_rfl) ?_ _
  change Exit.then _ _ Exit.normal _ ((w2.drew.setCell ⟨sb, 32, none⟩ (.int .u32 (X 32))).setCell ⟨sb, 33, none⟩ (.int .u32 (X 33)))
  clear a0 a1 z0 z0f z1 z1f hHeld0 hHeld1 hHeld2
  generalize (w2.drew.setCell ⟨sb, 32, none⟩ (.int .u32 (X 32))).setCell ⟨sb, 33, none⟩ (.int .u32 (X 33)) = w4 at *
  have z0 : w4.cell? ⟨sb, 34, none⟩ = some _ := HS4.out.cell (show 34 < 43 by decide)
  have z1 : w4.cell? ⟨sb, 35, none⟩ = some _ := HS4.out.cell (show 35 < 43 by decide)
  have z2 : w4.cell? ⟨sb, 42, none⟩ = some (.int .i64 s.count) := HS4.out.cell (show 42 < 43 by decide)
  have z0f := HS4.out.free 34
  have z1f := HS4.out.free 35
  have z2f := HS4.out.free 42
  simp only [stG] at z0 z1
  have HS5 := Lib.hid (((HS4.out.setPc pc).setNext ((pc + 4) % 4294967296)).setCount (s.count + (many : Int)))
  have hk5 : Kept (fun k => k = sb) w4 (((w4.setCell ⟨sb, 34, none⟩ (.int .u32 pc)).setCell ⟨sb, 35, none⟩ (.int .u32 ((pc + 4) % 4294967296))).setCell ⟨sb, 42, none⟩ (.int .i64 (s.count + (many : Int)))) := ((Kept.set w4 sb 34 _).trans (Kept.set _ sb 35 _)).trans (Kept.set _ sb 42 _)
  have HM5 := Lib.hid (show MpB _ mb X rv (.slice none 0 0) from Row.kept HM4.out hk5 HNE.out)
  have HK5 := Lib.hid (HK4.out.trans hk5)
  have q : (((w4.setCell ⟨sb, 34, none⟩ (.int .u32 pc)).setCell ⟨sb, 35, none⟩ (.int .u32 ((pc + 4) % 4294967296))).setCell ⟨sb, 42, none⟩ (.int .i64 (s.count + (many : Int)))).cell? ⟨mb, 65, none⟩ = some (.slice none 0 0) := HM5.out.cell (show 65 < 66 by decide)
  clear hk5
  go_wp2_with fail
  clear z0 z1 z2 z0f z1f z2f q
  generalize ((w4.setCell ⟨sb, 34, none⟩ (.int .u32 pc)).setCell ⟨sb, 35, none⟩ (.int .u32 ((pc + 4) % 4294967296))).setCell ⟨sb, 42, none⟩ (.int .i64 (s.count + (many : Int))) = w5 at *
  go_loopw [58] (fun v wr => v = .int .i64 0 ∧ wr = w5) (fun _ _ => 0)
  case atStart => exact ⟨rfl, rfl⟩
  case round =>
    obtain ⟨rfl, rfl⟩ := hrel
    go_wp2
    go_end0
    exact ⟨rfl, HS5.out, HK5.out⟩
end
end Go.Proofs.YtadoaldnjnkhgaaGreatDoor
namespace Go.Proofs.YtadoaldnjnkhgaaGreatDoor
open Go.RowKit
theorem two_cells {w : World} {b : Nat} {t : TypeId} {a0 a1 : Value} {fr : Nat × Nat} (h : w.heap[b]? = some (Obj.cells #[a0, a1] t fr)) : w.cell? ⟨b, 0, none⟩ = some a0 ∧ w.cell? ⟨b, 1, none⟩ = some a1 := by
  refine ⟨?_, ?_⟩ <;> simp [World.cell?, h]
theorem two_free {w : World} {b : Nat} {t : TypeId} {a0 a1 : Value} (h : w.heap[b]? = some (Obj.cells #[a0, a1] t (0, 0))) : w.frozen? ⟨b, 0, none⟩ = false ∧ w.frozen? ⟨b, 1, none⟩ = false := by
  refine ⟨?_, ?_⟩ <;> simp [World.frozen?, h]
def stepR (o : OpN) (X : Regs) : Regs := match o.kind with
  | .set => updR X o.d o.imm
  | .add => updR X o.d ((X o.a + X o.b.toNat) % 4294967296)
  | _ => X
def runR (ops : List OpN) (X : Regs) : Regs := ops.foldl (fun X o => stepR o X) X
theorem runR_take (ops : List OpN) (X : Regs) (j : Nat) (h : j < ops.length) : runR (ops.take (j + 1)) X = stepR (ops[j]'h) (runR (ops.take j) X) := by
  unfold runR
  rw [List.take_add_one, List.getElem?_eq_getElem h, List.foldl_append]
  rfl
structure LinOK (many : Nat) (ops : List OpN) : Prop where
  code : CodeOK many ops
  lin : ∀ j (h : j + 1 < ops.length), (ops[j]'(by omega)).kind = .set ∨ (ops[j]'(by omega)).kind = .add
  last : ∀ j (h : j + 1 = ops.length), (ops[j]'(by omega)).kind = .out
theorem doP_any {w : World} {mb : Nat} {o : OpN} {X : Regs} {rv wv : Value} (hk : o.kind = .set ∨ o.kind = .add) (hg : opG o) (h : MpB w mb X rv wv) :
    Calls Tryz.prog 42 #[.pointer (some ⟨mb, 0, none⟩), opA (bsl o.kind.text) o.d o.a o.b o.imm o.at'] w fun e w' => e = .returned (.bool true) ∧ MpB w' mb (stepR o X) rv wv ∧ Kept (fun k => k = mb) w w' := by
  obtain ⟨k, d, a, b, im, n⟩ := o
  simp only at hk
  rcases hk with rfl | rfl
  · obtain ⟨h1, h2, h3, h4⟩ := hg
    simp only at h1 h2 h3 h4
    subst h4
    exact doP_set (d := d) (a := a) (b := 0) (im := im) (n := n) h h2 (by omega) (by decide) (by decide)
  · obtain ⟨h1, h2, h3, h4, h5, h6⟩ := hg
    simp only at h1 h2 h3 h4 h5 h6
    exact doP_add (d := d) (a := a) (b := b) (im := im) (n := n) h h2 h3 h4 h5
set_option maxHeartbeats 8000000 in
set_option maxRecDepth 100000 in
theorem evalP_lin {w : World} {sb r g cap many : Nat} {ops : List OpN} {pc mx : Int} {s : StF} (hs : StB w sb s) (h : OpsAt w g ops) (hc : LinOK many ops) (hm : w.cell? ⟨11, 0, none⟩ = some (.int .i64 mx))
    (hp : s.slot = false) (hn : s.next = (s.pc + 4) % 4294967296) (hpc : s.pc = pc) (c0 : 0 ≤ s.count) (c1 : s.count ≤ 4611686018427387904) :
    Calls Tryz.prog 15 #[.agg #[.int .u32 pc, .int .i64 (many : Int), .slice (some ⟨g, 0, none⟩) ops.length cap], .pointer (some ⟨sb, 0, none⟩), .pointer (some ⟨r, 0, none⟩)] w fun e w' => e = .returned (.tuple #[.agg #[.bool false, .int .i64 0], .nilIface]) ∧ StB w' sb (leftS s (runR (ops.take (ops.length - 1)) (regsP s)) (ops[ops.length - 1]?.getD ⟨.out, 0, 0, 0, 0, 0⟩).imm many) ∧ Kept (fun k => k = sb) w w' := by
  have hb1 := (Below.refl w.heap.size w).alloc (Nat.le_refl _) (.cells #[.int .u32 pc, .int .i64 (many : Int), .slice (some ⟨g, 0, none⟩) ops.length cap] 34)
  have hb2 := hb1.alloc hb1.size (.cells #[.bool false, .int .i64 0] 63)
  have HB := Lib.hid hb2
  have HC := Lib.hid hc
  have HBX : Hid (CodeBox ((w.alloc (.cells #[.int .u32 pc, .int .i64 (many : Int), .slice (some ⟨g, 0, none⟩) ops.length cap] 34)).alloc (.cells #[.bool false, .int .i64 0] 63)) w.heap.size pc many (.slice (some ⟨g, 0, none⟩) ops.length cap)) := Lib.hid ((Below.heap_alloc _ _ _ (by simp)).trans (heap_alloc_new w _))
  have HSZ : Hid (w.heap.size + 1 < ((w.alloc (.cells #[.int .u32 pc, .int .i64 (many : Int), .slice (some ⟨g, 0, none⟩) ops.length cap] 34)).alloc (.cells #[.bool false, .int .i64 0] 63)).heap.size) := Lib.hid (by simp)
  have HED : Hid (((w.alloc (.cells #[.int .u32 pc, .int .i64 (many : Int), .slice (some ⟨g, 0, none⟩) ops.length cap] 34)).alloc (.cells #[.bool false, .int .i64 0] 63)).heap[w.heap.size + 1]? = some (.cells #[.bool false, .int .i64 0] 63 (0, 0))) := Lib.hid (by have := heap_alloc_new (w.alloc (.cells #[.int .u32 pc, .int .i64 (many : Int), .slice (some ⟨g, 0, none⟩) ops.length cap] 34)) (.cells #[.bool false, .int .i64 0] 63); simpa using this)
  have HS := Lib.hid (show StB ((w.alloc (.cells #[.int .u32 pc, .int .i64 (many : Int), .slice (some ⟨g, 0, none⟩) ops.length cap] 34)).alloc (.cells #[.bool false, .int .i64 0] 63)) sb s from hs.of_block (hb2.block sb hs.lt))
  have HO := Lib.hid (h.below hb2 h.lt)
  have HMX := Lib.hid ((hb2.cell (p := ⟨11, 0, none⟩) (World.block_lt_of_cell? _ _ hm)).trans hm)
  have HLT := Lib.hid hs.lt
  have HGL := Lib.hid h.lt
  have HRD := Lib.hid (And.intro hp (And.intro hn hpc))
  have HCT := Lib.hid (And.intro c0 c1)
  have l1 : (ops.length : Int) ≤ 100 := by have := hc.code.len; omega
  clear hs h hc hm hp hn hpc c0 c1 hb1 hb2
  go_enter Tryz.func15, Tryz.ntmps15
  go_wp2_with fail
  generalize (w.alloc (.cells #[.int .u32 pc, .int .i64 (many : Int), .slice (some ⟨g, 0, none⟩) ops.length cap] 34)).alloc (.cells #[.bool false, .int .i64 0] 63) = W at *
  refine (irCheck_ok HO.out HC.out.code HMX.out).mono ?_
  rintro e w1 ⟨rfl, hb1⟩
  have HB1 := Lib.hid (HB.out.trans (hb1.mono HB.out.size))
  have HBX1 := Lib.hid (show CodeBox w1 w.heap.size pc many (.slice (some ⟨g, 0, none⟩) ops.length cap) from (hb1.block _ (by have := HSZ.out; omega)).trans HBX.out)
  have HED1 := Lib.hid ((hb1.block _ HSZ.out).trans HED.out)
  have HS1 := Lib.hid (show StB w1 sb s from Row.of_block (w' := w1) HS.out (hb1.block sb HS.out.lt))
  have HO1 := Lib.hid (HO.out.below hb1 HO.out.lt)
  have HSZ1 := Lib.hid (Nat.lt_of_lt_of_le HSZ.out hb1.size)
  clear hb1 HB HBX HED HS HO HSZ HMX
  obtain ⟨b0, b1, b2⟩ := HBX1.out.cells
  have HRY := Lib.hid (irReady_yes HS1.out HRD.out.1 HRD.out.2.1)
  rw [HRD.out.2.2] at HRY
  have HNM := Lib.hid (newMachineP_any (r := r) HS1.out)
  go_wp2_with fail
  refine HRY.out.mono ?_
  rintro e w2 ⟨rfl, rfl⟩
  go_wp2_with fail
  refine HNM.out.mono ?_
  intro e w2 hm2
  obtain ⟨mb, rfl, hmb, hM2, hb2⟩ := hm2
  have HB2 := Lib.hid (HB1.out.trans (hb2.mono HB1.out.size))
  have HBX2 := Lib.hid (show CodeBox w2 w.heap.size pc many (.slice (some ⟨g, 0, none⟩) ops.length cap) from (hb2.block _ (by have := HSZ1.out; omega)).trans HBX1.out)
  have HED2 := Lib.hid ((hb2.block _ HSZ1.out).trans HED1.out)
  have HS2 := Lib.hid (show StB w2 sb s from Row.of_block (w' := w2) HS1.out (hb2.block sb HS1.out.lt))
  have HO2 := Lib.hid (HO1.out.below hb2 HO1.out.lt)
  have HM2 := Lib.hid hM2
  have HMB := Lib.hid (show w.heap.size + 1 < mb by have := HSZ1.out; omega)
  clear hmb hM2 hb2 b0 b1 b2 HB1 HBX1 HED1 HS1 HO1 HRY HNM
  obtain ⟨b0, b1, b2⟩ := HBX2.out.cells
  go_wp2_with fail
  clear b0 b1 b2
  go_loopw [41] (fun i wr => ∃ j : Nat, j < ops.length ∧ i = .int .i64 (j : Int) ∧ Hid (MpB wr mb (runR (ops.take j) (regsP s)) (.pointer (some ⟨r, 0, none⟩)) (.slice none 0 0)) ∧ Hid (Kept (fun k => k = mb) w2 wr)) (fun i _ => ops.length - (intOf i).toNat)
  case atStart => exact ⟨0, by have := HC.out.code.ne; omega, rfl, HM2, Lib.hid (Kept.refl _ _)⟩
  case round =>
    obtain ⟨j, hlt, rfl, HMj, HKj⟩ := hrel
    have hjI : (j : Int) < (ops.length : Int) := by omega
    have HOj := Lib.hid (HO2.out.of_block (HKj.out.same g HO2.out.lt (by have := HMB.out; have := HGL.out; omega)))
    have HBXj := Lib.hid (show CodeBox wr w.heap.size pc many (.slice (some ⟨g, 0, none⟩) ops.length cap) from (HKj.out.same _ (Array.getElem?_eq_some_iff.1 HBX2.out).1 (by have := HMB.out; omega)).trans HBX2.out)
    have HEDj := Lib.hid ((HKj.out.same _ (Array.getElem?_eq_some_iff.1 HED2.out).1 (by have := HMB.out; omega)).trans HED2.out)
    have HSj := Lib.hid (show StB wr sb s from Row.kept HS2.out HKj.out (by have := HMB.out; have := HLT.out; omega))
    obtain ⟨c0, c1, c2, c3, c4, c5⟩ := HOj.out.cells j hlt
    have hgood := (HC.out.code.good (ops[j]'hlt) (List.getElem_mem hlt)).2.1
    have HJ := Lib.hid hlt
    have HRT := Lib.hid (runR_take ops (regsP s) j hlt)
    have HLE := Lib.hid (fun wx => irLeaves_any (ops[j]'hlt).kind wx)
    by_cases hlast : j + 1 = ops.length
    · have hk : (ops[j]'hlt).kind = .out := HC.out.last j hlast
      have hg2 : opG (ops[j]'hlt) := hgood
      have HIM : Hid ((ops[ops.length - 1]?.getD ⟨.out, 0, 0, 0, 0, 0⟩).imm = (ops[j]'hlt).imm) := by
        refine Lib.hid ?_
        rw [show ops.length - 1 = j by omega, List.getElem?_eq_getElem hlt]
        rfl
      have HTK : Hid (ops.take (ops.length - 1) = ops.take j) := Lib.hid (by rw [show ops.length - 1 = j by omega])
      have HLS := Lib.hid hlast
      rw [hk] at HLE c0
      unfold opG at hg2
      rw [hk] at hg2
      obtain ⟨hd0, ha0, hbz⟩ := hg2
      clear hlast hgood
      generalize hoj : ops[j]'hlt = oj at *
      clear hoj
      obtain ⟨ok, od1, oa1, ob1, oi1, ot1⟩ := oj
      simp only at hk hd0 hbz ha0 c0 c1 c2 c3 c4 c5 HLE HIM
      subst hk ha0 hd0 hbz
      have c0l : wr.cell? ⟨g, j * 6, none⟩ = some (.string ⟨#[111, 117, 116]⟩) := c0
      have HLE2 : Hid (∀ wx, Calls Tryz.prog 39 #[.string ⟨#[111, 117, 116]⟩] wx fun e w' => e = .returned (.bool true) ∧ wx = w') := HLE
      clear c0 HLE hlt
      go_wp2_with fail
      refine (HLE2.out _).mono ?_
      rintro e w3 ⟨rfl, rfl⟩
      go_wp2_with fail
      generalize hX9 : wr.alloc (.cells #[.string ⟨#[111, 117, 116]⟩, .int .i64 0, .int .i64 0, .int .i64 0, .int .u32 oi1, .int .i64 (ot1 : Int)] 86) = X9
      have hx0 := (Below.refl wr.heap.size wr).alloc (Nat.le_refl _) (.cells #[.string ⟨#[111, 117, 116]⟩, .int .i64 0, .int .i64 0, .int .i64 0, .int .u32 oi1, .int .i64 (ot1 : Int)] 86)
      have hx1 := heap_alloc_new wr (.cells #[.string ⟨#[111, 117, 116]⟩, .int .i64 0, .int .i64 0, .int .i64 0, .int .u32 oi1, .int .i64 (ot1 : Int)] 86)
      rw [hX9] at hx0 hx1
      clear hX9
      obtain ⟨x0, hx00⟩ : ∃ x, runR (ops.take j) (regsP s) 0 = x := ⟨_, rfl⟩
      have hm0 : X9.cell? ⟨mb, 0, none⟩ = some (.int .u32 x0) := by
        rw [← hx00]
        exact (hx0.cell (p := ⟨mb, 0, none⟩) HMj.out.lt).trans (HMj.out.reg (show 0 < 64 by decide))
      have HBX9 := Lib.hid hx0
      obtain ⟨e0, e1, e2, e3, e4, e5⟩ := six_cells hx1
      have HWH := Lib.hid (fun wx => irWhere_out (d := 0) (a := 0) (n := ot1) (b := 0) (im := oi1) x0 wx)
      clear hx1 hx00
      refine wp_region_held_drew (S := fun w' => (w'.cell? ⟨wr.heap.size, 0, none⟩ = some (.string ⟨#[111, 117, 116]⟩) ∧ w'.cell? ⟨wr.heap.size, 1, none⟩ = some (.int .i64 0) ∧ w'.cell? ⟨wr.heap.size, 2, none⟩ = some (.int .i64 0) ∧ w'.cell? ⟨wr.heap.size, 3, none⟩ = some (.int .i64 0) ∧ w'.cell? ⟨wr.heap.size, 4, none⟩ = some (.int .u32 oi1) ∧ w'.cell? ⟨wr.heap.size, 5, none⟩ = some (.int .i64 (ot1 : Int)) ∧ w'.cell? ⟨mb, 0, none⟩ = some (.int .u32 x0) ∧ Below wr.heap.size wr w')) (by kernel_rfl) ?_ (fun hHeld => ?_)
      · exact ⟨e0, e1, e2, e3, e4, e5, hm0, hx0.trans ((Below.refl _ _).drew.mono hx0.size)⟩
      refine wpAnyH_take (i := 0) (v := ?_) rfl (by kernel_rfl) (by kernel_rfl) (by kernel_rfl) (fun _ _ _ h => h) (Or.inl ⟨by kernel_rfl, ?_⟩) (by assumption) ?_
      rotate_left
      · (intro wq hSq; (try dsimp only at hSq); go_simp; try with_reducible rfl)
      (try simp only [List.getElem_toArray, List.getElem_cons_succ, List.getElem_cons_zero, Act.put, List.setIfInBounds_toArray, List.set_cons_zero, List.set_cons_succ])
      refine wpAnyH_take (i := 1) (v := ?_) rfl (by kernel_rfl) (by kernel_rfl) (by kernel_rfl) (fun _ _ _ h => h) (Or.inl ⟨by kernel_rfl, ?_⟩) (by assumption) ?_
      rotate_left
      · (intro wq hSq; (try dsimp only at hSq); go_simp; try with_reducible rfl)
      (try simp only [List.getElem_toArray, List.getElem_cons_succ, List.getElem_cons_zero, Act.put, List.setIfInBounds_toArray, List.set_cons_zero, List.set_cons_succ])
      refine wpAnyH_take (i := 2) (v := ?_) rfl (by kernel_rfl) (by kernel_rfl) (by kernel_rfl) (fun _ _ _ h => h) (Or.inl ⟨by kernel_rfl, ?_⟩) (by assumption) ?_
      rotate_left
      · (intro wq hSq; (try dsimp only at hSq); go_simp; try with_reducible rfl)
      (try simp only [List.getElem_toArray, List.getElem_cons_succ, List.getElem_cons_zero, Act.put, List.setIfInBounds_toArray, List.set_cons_zero, List.set_cons_succ])
      refine wpAnyH_take (i := 3) (v := ?_) rfl (by kernel_rfl) (by kernel_rfl) (by kernel_rfl) (fun _ _ _ h => h) (Or.inl ⟨by kernel_rfl, ?_⟩) (by assumption) ?_
      rotate_left
      · (intro wq hSq; (try dsimp only at hSq); go_simp; try with_reducible rfl)
      (try simp only [List.getElem_toArray, List.getElem_cons_succ, List.getElem_cons_zero, Act.put, List.setIfInBounds_toArray, List.set_cons_zero, List.set_cons_succ])
      refine wpAnyH_take (i := 4) (v := ?_) rfl (by kernel_rfl) (by kernel_rfl) (by kernel_rfl) (fun _ _ _ h => h) (Or.inl ⟨by kernel_rfl, ?_⟩) (by assumption) ?_
      rotate_left
      · (intro wq hSq; (try dsimp only at hSq); go_simp; try with_reducible rfl)
      (try simp only [List.getElem_toArray, List.getElem_cons_succ, List.getElem_cons_zero, Act.put, List.setIfInBounds_toArray, List.set_cons_zero, List.set_cons_succ])
      refine wpAnyH_take (i := 5) (v := ?_) rfl (by kernel_rfl) (by kernel_rfl) (by kernel_rfl) (fun _ _ _ h => h) (Or.inl ⟨by kernel_rfl, ?_⟩) (by assumption) ?_
      rotate_left
      · (intro wq hSq; (try dsimp only at hSq); go_simp; try with_reducible rfl)
      (try simp only [List.getElem_toArray, List.getElem_cons_succ, List.getElem_cons_zero, Act.put, List.setIfInBounds_toArray, List.set_cons_zero, List.set_cons_succ])
      refine wpAnyH_take (i := 6) (v := ?_) rfl (by kernel_rfl) (by kernel_rfl) (by kernel_rfl) (fun _ _ _ h => h) (Or.inl ⟨by kernel_rfl, ?_⟩) (by assumption) ?_
      rotate_left
      · (intro wq hSq; (try dsimp only at hSq); go_simp; try with_reducible rfl)
      (try simp only [List.getElem_toArray, List.getElem_cons_succ, List.getElem_cons_zero, Act.put, List.setIfInBounds_toArray, List.set_cons_zero, List.set_cons_succ])
      refine wpAnyH_take (i := 7) (v := ?_) rfl (by kernel_rfl) (by kernel_rfl) (by kernel_rfl) (fun _ _ _ h => h) (Or.inl ⟨by kernel_rfl, ?_⟩) (by assumption) ?_
      rotate_left
      · (intro wq hSq; (try dsimp only at hSq); go_simp; try with_reducible rfl)
      (try simp only [List.getElem_toArray, List.getElem_cons_succ, List.getElem_cons_zero, Act.put, List.setIfInBounds_toArray, List.set_cons_zero, List.set_cons_succ])
      refine wpAnyH_ready (rs := [8]) (by kernel_rfl) (by simp) ?_
      refine AllReadyH.cons rfl (fun K9 hK9 => ?_) AllReadyH.nil
      go_simp
      refine (HWH.out _).mono ?_
      rintro e w4 ⟨rfl, hb9⟩
      refine hK9.out _ _ ?_ (fun hHeld2 => ?_)
      · (try dsimp only at hHeld)
        go_split_ands
        refine ⟨?_, ?_, ?_, ?_, ?_, ?_, ?_, ?_⟩ <;> (first | assumption | (rw [hb9.cell (World.block_lt_of_cell? _ _ (by assumption))]; assumption) | exact Below.trans (by assumption) (hb9.mono (Below.size (by assumption))))
      clear hK9 K9
      (try simp only [List.getElem_toArray, List.getElem_cons_succ, List.getElem_cons_zero, Act.put, List.setIfInBounds_toArray, List.set_cons_zero, List.set_cons_succ])
      refine wpAnyH_take (i := 9) (v := ?_) rfl (by kernel_rfl) (by kernel_rfl) (by kernel_rfl) (fun _ _ _ h => h) (Or.inl ⟨by kernel_rfl, ?_⟩) (by assumption) ?_
      rotate_left
      · (intro wq hSq; (try dsimp only at hSq); go_simp; try with_reducible rfl)
      (try simp only [List.getElem_toArray, List.getElem_cons_succ, List.getElem_cons_zero, Act.put, List.setIfInBounds_toArray, List.set_cons_zero, List.set_cons_succ])
      refine wpAnyH_take (i := 10) (v := ?_) rfl (by kernel_rfl) (by kernel_rfl) (by kernel_rfl) (fun _ _ _ h => h) (Or.inl ⟨by kernel_rfl, ?_⟩) (by assumption) ?_
      rotate_left
      · (intro wq hSq; (try dsimp only at hSq); go_simp; try with_reducible rfl)
      (try simp only [List.getElem_toArray, List.getElem_cons_succ, List.getElem_cons_zero, Act.put, List.setIfInBounds_toArray, List.set_cons_zero, List.set_cons_succ])
      refine wpAnyH_take (i := 11) (v := ?_) rfl (by kernel_rfl) (by kernel_rfl) (by kernel_rfl) (fun _ _ _ h => h) (Or.inl ⟨by kernel_rfl, ?_⟩) (by assumption) ?_
      rotate_left
      · (intro wq hSq; (try dsimp only at hSq); go_simp; try with_reducible rfl)
      (try simp only [List.getElem_toArray, List.getElem_cons_succ, List.getElem_cons_zero, Act.put, List.setIfInBounds_toArray, List.set_cons_zero, List.set_cons_succ])
      refine wpAnyH_take (i := 12) (v := ?_) rfl (by kernel_rfl) (by kernel_rfl) (by kernel_rfl) (fun _ _ _ h => h) (Or.inl ⟨by kernel_rfl, ?_⟩) (by assumption) ?_
      rotate_left
      · (intro wq hSq; (try dsimp only at hSq); go_simp; try with_reducible rfl)
      (try simp only [List.getElem_toArray, List.getElem_cons_succ, List.getElem_cons_zero, Act.put, List.setIfInBounds_toArray, List.set_cons_zero, List.set_cons_succ])
      refine wpAnyH_take (i := 13) (v := ?_) rfl (by kernel_rfl) (by kernel_rfl) (by kernel_rfl) (fun _ _ _ h => h) (Or.inl ⟨by kernel_rfl, ?_⟩) (by assumption) ?_
      rotate_left
      · (intro wq hSq; (try dsimp only at hSq); go_simp; try with_reducible rfl)
      (try simp only [List.getElem_toArray, List.getElem_cons_succ, List.getElem_cons_zero, Act.put, List.setIfInBounds_toArray, List.set_cons_zero, List.set_cons_succ])
      refine wpAnyH_done (by kernel_rfl) ?_ _
      have hb4 : Below wr.heap.size wr w4 := hHeld2.2.2.2.2.2.2.2
      have HK4 := Lib.hid (show Kept (fun k => k = mb) w2 w4 from HKj.out.trans (Kept.of_below hb4))
      have HS4 := Lib.hid (show StB w4 sb s from Row.of_block (w' := w4) HSj.out (hb4.block sb HSj.out.lt))
      have HM4 := Lib.hid (show MpB w4 mb (runR (ops.take j) (regsP s)) (.pointer (some ⟨r, 0, none⟩)) (.slice none 0 0) from Row.of_block (w' := w4) HMj.out (hb4.block mb HMj.out.lt))
      have HED4 := Lib.hid ((hb4.block _ (Array.getElem?_eq_some_iff.1 HEDj.out).1).trans HEDj.out)
      have b1 : w4.cell? ⟨w.heap.size, 1, none⟩ = some (.int .i64 (many : Int)) := (show CodeBox w4 w.heap.size pc many (.slice (some ⟨g, 0, none⟩) ops.length cap) from (hb4.block _ (Array.getElem?_eq_some_iff.1 HBXj.out).1).trans HBXj.out).cells.2.1
      have HLV := Lib.hid (leaveP_any (many := many) (pc := oi1) HS4.out HM4.out (by have := HMB.out; have := HLT.out; omega) HCT.out.1 HCT.out.2 HC.out.code.m1)
      have HNE : Hid (sb ≠ w.heap.size + 1) := Lib.hid (by have := HLT.out; omega)
      clear hb4 hHeld hHeld2 e0 e1 e2 e3 e4 e5 hm0 hx0 c0l c1 c2 c3 c4 c5 HWH HLE2
      go_wp2_with fail
      refine HLV.out.mono ?_
      intro e w5 h5
      obtain ⟨rfl, hS5, hK5⟩ := h5
      have hED5 := (hK5.same _ (Array.getElem?_eq_some_iff.1 HED4.out).1 (fun e => HNE.out e.symm)).trans HED4.out
      obtain ⟨q0, q1⟩ := two_cells hED5
      obtain ⟨f0, f1⟩ := two_free hED5
      have HS6 := Lib.hid (show StB ((w5.setCell ⟨w.heap.size + 1, 0, none⟩ (.bool false)).setCell ⟨w.heap.size + 1, 1, none⟩ (.int .i64 0)) sb _ from Row.kept (Row.kept hS5 (Kept.set w5 (w.heap.size + 1) 0 _) HNE.out) (Kept.set _ (w.heap.size + 1) 1 _) HNE.out)
      have hK45 : Kept (fun k => k = sb) w w5 := (((Kept.of_below (S := fun k => k = sb) HB2.out).behind HK4.out (fun i hi e => by have := HMB.out; omega))).trans hK5
      have HK6 := Lib.hid ((hK45.behind (Kept.set w5 (w.heap.size + 1) 0 (.bool false)) (fun i hi e => by omega)).behind (Kept.set _ (w.heap.size + 1) 1 (.int .i64 0)) (fun i hi e => by omega))
      clear hS5 hK5 hED5 hK45 b1
      have p1 := World.cell?_setCell_same (w5.setCell ⟨w.heap.size + 1, 0, none⟩ (.bool false)) ⟨w.heap.size + 1, 1, none⟩ (.int .i64 0) ((World.cell?_setCell_other w5 ⟨w.heap.size + 1, 0, none⟩ ⟨w.heap.size + 1, 1, none⟩ (.bool false) (by simp)).trans q1)
      have p0 := (World.cell?_setCell_other (w5.setCell ⟨w.heap.size + 1, 0, none⟩ (.bool false)) ⟨w.heap.size + 1, 1, none⟩ ⟨w.heap.size + 1, 0, none⟩ (.int .i64 0) (by simp)).trans (World.cell?_setCell_same w5 ⟨w.heap.size + 1, 0, none⟩ (.bool false) q0)
      go_wp2
      generalize (w5.setCell ⟨w.heap.size + 1, 0, none⟩ (.bool false)).setCell ⟨w.heap.size + 1, 1, none⟩ (.int .i64 0) = w7 at *
      clear q0 q1 f0 f1
      exact bodyPost_ret (v := .tuple #[.agg #[.bool false, .int .i64 0], .nilIface]) (by simp [results, Tryz.results15, go_sem, p0, p1]) rfl ⟨rfl, by rw [HTK.out, HIM.out]; exact HS6.out, HK6.out⟩
    · have hk : (ops[j]'hlt).kind = .set ∨ (ops[j]'hlt).kind = .add := HC.out.lin j (by omega)
      have hlv : leavesK (ops[j]'hlt).kind = false := by rcases hk with e | e <;> rw [e] <;> rfl
      rw [hlv] at HLE
      have HDO := Lib.hid (fun (W : World) (hM : MpB W mb (runR (ops.take j) (regsP s)) (.pointer (some ⟨r, 0, none⟩)) (.slice none 0 0)) => doP_any hk hgood hM)
      have HNL : Hid (j + 1 < ops.length) := Lib.hid (by omega)
      rw [← HRT.out] at HDO
      clear hk hlv hgood hlast HRT
      generalize hoj : ops[j]'hlt = oj at *
      clear hoj hlt
      obtain ⟨ok, od1, oa1, ob1, oi1, ot1⟩ := oj
      simp only at c0 c1 c2 c3 c4 c5 HLE HDO
      generalize bsl ok.text = kt at *
      go_wp2_with fail
      generalize hX9 : wr.alloc (.cells #[.string kt, .int .i64 (od1 : Int), .int .i64 (oa1 : Int), .int .i64 ob1, .int .u32 oi1, .int .i64 (ot1 : Int)] 86) = X9
      have hx0 := (Below.refl wr.heap.size wr).alloc (Nat.le_refl _) (.cells #[.string kt, .int .i64 (od1 : Int), .int .i64 (oa1 : Int), .int .i64 ob1, .int .u32 oi1, .int .i64 (ot1 : Int)] 86)
      have hx1 := heap_alloc_new wr (.cells #[.string kt, .int .i64 (od1 : Int), .int .i64 (oa1 : Int), .int .i64 ob1, .int .u32 oi1, .int .i64 (ot1 : Int)] 86)
      rw [hX9] at hx0 hx1
      clear hX9
      obtain ⟨e0, e1, e2, e3, e4, e5⟩ := six_cells hx1
      refine (HLE.out _).mono ?_
      rintro e w3 ⟨rfl, rfl⟩
      have HDO9 := Lib.hid (HDO.out X9 (Row.of_block (w' := X9) HMj.out (hx0.block mb HMj.out.lt)))
      have HX9 := Lib.hid hx0
      clear c0 c1 c2 c3 c4 c5 hx1 hx0 HDO HLE
      go_wp2_with fail
      refine HDO9.out.mono ?_
      intro e w4 h4
      obtain ⟨rfl, hM4, hK4⟩ := h4
      have HM4 := Lib.hid hM4
      have HK4 := Lib.hid ((HKj.out.trans (Kept.of_below HX9.out)).trans hK4)
      clear hM4 hK4 e0 e1 e2 e3 e4 e5
      go_wp2_with fail
      go_roundw
      case rel => exact ⟨j + 1, HNL.out, by go_num, HM4, HK4⟩
      case measure => have := HJ.out; go_light; simp [intOf]; omega
end Go.Proofs.YtadoaldnjnkhgaaGreatDoor
