/- ir's Leave with whatever waits. No walk of its own. The walks of opt's Reads and Writes at any op. The walks of opt's facts: of, learn, foldable. Ops in a row of one's own: written over, copied (slices.Clone). The walk of opt's fold. The walks of plan's class, room, final. The walk of ir's Eval at any code. UNDER WAY. The walk of host's read at a load, and at any op. The walk of host's row. The walks of slices.Index and slices.Contains at ints. The walk of plan's counts. Conditions: as each theorem states. -/
import Derived.Test.YtlnefmgiiogcmaaGreatDoorQ25
import Derived.Test.YtlnefmgiiogcmaaGreatDoorQ26
import Derived.Test.YtlnefmgiiogcmaaGreatDoorQ12
import Derived.Test.YtlnefmgiiogcmaaGreatDoorQ20
import Derived.Deep.QuietTactic
import Derived.BigQuiet
import Derived.Test.YtlnefmgiiogcmaaGreatDoorQ23
import Derived.Deep.RegionHeld3
set_option linter.unusedVariables false
set_option linter.unusedSimpArgs false
namespace Go.Proofs.YtlnefmgiiogcmaaGreatDoor
open Go.RowKit
theorem leaveP_all {w : World} {r bb mw mh mb B n sb many : Nat} {X : Regs} {wv : Value} {ws : List Int} {wt ht : Nat → Bool} {W : List StoW} {s : StF} {pc : Int} (h : EvS w r bb mw mh mb B n X wv ws wt ht W) (hl : W.length ≤ 8) (hs : StB w sb s) (hsb : sb < B) (hsep : r ≠ sb ∧ bb ≠ sb ∧ mw ≠ sb ∧ mh ≠ sb) (hd : bb ≠ mw ∧ bb ≠ mh ∧ bb ≠ r ∧ mh ≠ r) (hn : n < 1099511627000) (c0 : 0 ≤ s.count) (c1 : s.count ≤ 4611686018427387904) (hmany : many ≤ 24) :
    Calls Tryz.prog 32 #[.pointer (some ⟨mb, 0, none⟩), .pointer (some ⟨sb, 0, none⟩), .int .u32 pc, .int .i64 (many : Int)] w fun e w' => e = .returned (.tuple #[]) ∧ StB w' sb (leftS s X pc many) ∧ RamP w' r bb mw mh (applyW ws W) wt ht (n + W.length) ∧ Kept (fun k => k = sb ∨ k = bb ∨ k = mh) w w' := by
  have hlow := h.low
  rcases Joins.ownsRow_forms h.wait with ⟨hv, hz⟩ | ⟨g, cap, hv⟩
  · have hW0 : W = [] := List.length_eq_zero_iff.1 hz
    subst hv hW0
    refine (leaveP_any hs h.mp (by omega) c0 c1 hmany).mono ?_
    rintro e w' ⟨rfl, h1, h2⟩
    exact ⟨rfl, h1, h.ram.kept h2 hsep.1 hsep.2.1 hsep.2.2.1 hsep.2.2.2, h2.mono (fun k e => Or.inl e)⟩
  · subst hv
    have hg : B ≤ g := h.own_ge rfl
    refine (leaveP_wait hs h.mp (by omega) c0 c1 hmany h.ram hn h.wait.at (fun x hx => ⟨(h.good x hx).ok.v, (h.good x hx).ok.size, (h.good x hx).right⟩) hl hd ⟨hsep.1, hsep.2.1, hsep.2.2.1, hsep.2.2.2, by omega⟩ ⟨by omega, by omega, by omega, by omega⟩).mono ?_
    rintro e w' ⟨rfl, h1, h2, h3⟩
    refine ⟨rfl, h1, ?_, h3⟩
    have e2 : hitsW wt ht W = ht := hits_none W h.good
    rw [e2] at h2
    exact h2
end Go.Proofs.YtlnefmgiiogcmaaGreatDoor
namespace Go.Proofs.YtlnefmgiiogcmaaGreatDoor
open Go.RowKit
def IntsR (w : World) (v : Value) (l : List Nat) : Prop := (l = [] ∧ v = .slice none 0 0) ∨ ∃ b, v = .slice (some ⟨b, 0, none⟩) l.length l.length ∧ ∀ i (h : i < l.length), w.cell? ⟨b, i, none⟩ = some (.int .i64 (l[i] : Int))
theorem IntsR.below {w w' : World} {v : Value} {l : List Nat} (h : IntsR w v l) (hb : Below w.heap.size w w') : IntsR w' v l := by
  rcases h with h | ⟨b, hv, hc⟩
  · exact Or.inl h
  · exact Or.inr ⟨b, hv, fun i hi => (hb.cell (p := ⟨b, i, none⟩) (World.block_lt_of_cell? _ _ (hc i hi))).trans (hc i hi)⟩
def ReadsP (w : World) (l : List Nat) (e : Ending) (w' : World) : Prop := ∃ v, e = .returned v ∧ IntsR w' v l ∧ Below w.heap.size w w'
theorem reads0 {w w' : World} (hb : Below w.heap.size w w') : ReadsP w [] (.returned (.slice none 0 0)) w' := ⟨_, rfl, Or.inl ⟨rfl, rfl⟩, hb⟩
theorem reads1 {w w' : World} {t : TypeId} {q : Nat} {a : Nat} (hz : w'.heap.size = q) (hb : Below w.heap.size w w') : ReadsP w [a] (.returned (.slice (some ⟨q, 0, none⟩) 1 1)) (w'.alloc (.cells #[.int .i64 (a : Int)] t)) :=
  ⟨_, rfl, Or.inr ⟨_, rfl, fun i hi => by
    have hh := heap_alloc_new w' (.cells #[.int .i64 (a : Int)] t)
    rw [hz] at hh
    match i, hi with
    | 0, _ => generalize w'.alloc _ = W at hh ⊢; simp [World.cell?, hh]⟩, hb.alloc hb.size _⟩
theorem reads2 {w w' : World} {t : TypeId} {q : Nat} {a : Nat} {b : Int} (h0 : ((b.toNat : Nat) : Int) = b) (hz : w'.heap.size = q) (hb : Below w.heap.size w w') : ReadsP w [a, b.toNat] (.returned (.slice (some ⟨q, 0, none⟩) 2 2)) (w'.alloc (.cells #[.int .i64 (a : Int), .int .i64 b] t)) :=
  ⟨_, rfl, Or.inr ⟨_, rfl, fun i hi => by
    have hh := heap_alloc_new w' (.cells #[.int .i64 (a : Int), .int .i64 b] t)
    rw [hz] at hh
    match i, hi with
    | 0, _ => generalize w'.alloc _ = W at hh ⊢; simp [World.cell?, hh]
    | 1, _ => generalize w'.alloc _ = W at hh ⊢; simp [World.cell?, hh, h0]⟩, hb.alloc hb.size _⟩
theorem reads3 {w w' : World} {t : TypeId} {q : Nat} {a : Nat} {b : Int} {c : Nat} (h0 : ((b.toNat : Nat) : Int) = b) (hz : w'.heap.size = q) (hb : Below w.heap.size w w') : ReadsP w [a, b.toNat, c] (.returned (.slice (some ⟨q, 0, none⟩) 3 3)) (w'.alloc (.cells #[.int .i64 (a : Int), .int .i64 b, .int .i64 (c : Int)] t)) :=
  ⟨_, rfl, Or.inr ⟨_, rfl, fun i hi => by
    have hh := heap_alloc_new w' (.cells #[.int .i64 (a : Int), .int .i64 b, .int .i64 (c : Int)] t)
    rw [hz] at hh
    match i, hi with
    | 0, _ => generalize w'.alloc _ = W at hh ⊢; simp [World.cell?, hh]
    | 1, _ => generalize w'.alloc _ = W at hh ⊢; simp [World.cell?, hh, h0]
    | 2, _ => generalize w'.alloc _ = W at hh ⊢; simp [World.cell?, hh]⟩, hb.alloc hb.size _⟩
set_option maxHeartbeats 8000000 in
set_option maxRecDepth 100000 in
theorem optReads_at {d a n : Nat} {b im : Int} (k : OpK) (hg : opG ⟨k, d, a, b, im, n⟩) (w : World) :
    Calls Tryz.prog 54 #[.agg #[.string k.lit, .int .i64 (d : Int), .int .i64 (a : Int), .int .i64 b, .int .u32 im, .int .i64 (n : Int)]] w fun e w' => ReadsP w (rdO ⟨k, d, a, b, im, n⟩) e w' := by
  have hb' := (Below.refl w.heap.size w).alloc (Nat.le_refl _) (.cells #[.string k.lit, .int .i64 (d : Int), .int .i64 (a : Int), .int .i64 b, .int .u32 im, .int .i64 (n : Int)] 61)
  have HB := Lib.hid hb'
  have HG := Lib.hid hg
  have HD := Lib.hid (fun wx => irDiv_any k wx)
  have HS := Lib.hid (fun wx => irSum_any k wx)
  have HBB : Hid (hasB k = true → k ≠ .load → ((b.toNat : Nat) : Int) = b) := by
    refine Lib.hid (fun h1 h2 => Int.toNat_of_nonneg ?_)
    revert hg h1 h2
    cases k <;> simp only [opG, hasB] <;> intro hg h1 h2 <;> first | omega | exact absurd rfl h2 | cases h1
  clear hb' hg
  cases k <;> simp only [OpK.lit, divKB, sumKB, rdO] at HB HD HS ⊢ <;> (go_enter Tryz.func54, Tryz.ntmps54; go_wp2_with (first | (go_at_call 78; (with_reducible refine (HD.out _).mono ?_); rintro e w1 ⟨rfl, rfl⟩) | (go_at_call 77; (with_reducible refine (HS.out _).mono ?_); rintro e w1 ⟨rfl, rfl⟩)); go_ret; first | exact reads0 HB.out | exact reads1 (by simp) HB.out | exact reads2 (HBB.out rfl (by simp)) (by simp) HB.out | exact reads3 (HBB.out rfl (by simp)) (by simp) HB.out)
set_option maxHeartbeats 8000000 in
set_option maxRecDepth 100000 in
theorem optWrites_at {d a n : Nat} {b im : Int} (k : OpK) (w : World) :
    Calls Tryz.prog 55 #[.agg #[.string k.lit, .int .i64 (d : Int), .int .i64 (a : Int), .int .i64 b, .int .u32 im, .int .i64 (n : Int)]] w fun e w' => e = .returned (.int .i64 (wrO ⟨k, d, a, b, im, n⟩ : Int)) ∧ Below w.heap.size w w' := by
  have hb' := (Below.refl w.heap.size w).alloc (Nat.le_refl _) (.cells #[.string k.lit, .int .i64 (d : Int), .int .i64 (a : Int), .int .i64 b, .int .u32 im, .int .i64 (n : Int)] 61)
  have HB := Lib.hid hb'
  have HS := Lib.hid (fun wx => irSum_any k wx)
  clear hb'
  cases k <;> simp only [OpK.lit, sumKB, wrO] at HB HS ⊢ <;> (go_enter Tryz.func55, Tryz.ntmps55; go_wp2_with (go_at_call 77; (with_reducible refine (HS.out _).mono ?_); rintro e w1 ⟨rfl, rfl⟩); go_ret; exact ⟨rfl, HB.out⟩)
theorem optWrites_any (o : OpN) (w : World) : Calls Tryz.prog 55 #[opV o] w fun e w' => e = .returned (.int .i64 (wrO o : Int)) ∧ Below w.heap.size w w' := by
  obtain ⟨k, d, a, b, im, n⟩ := o
  have := optWrites_at (d := d) (a := a) (n := n) (b := b) (im := im) k w
  rw [← lit_text] at this
  exact this
end Go.Proofs.YtlnefmgiiogcmaaGreatDoor
namespace Go.Proofs.YtlnefmgiiogcmaaGreatDoor
open Go.RowKit
def factP (f : Facts) : Int → Option Int := fun p => if p < 0 then none else f p.toNat
abbrev FactsM (w : World) (b : Nat) (f : Facts) (n : Nat) : Prop := MapF Tryz.prog 3 22 (some .u32) w b (factP f) n
def ofI (f : Facts) (p : Int) : Option Int := if p = 0 then some 0 else factP f p
theorem ofI_nat (f : Facts) (k : Nat) : ofI f (k : Int) = ofF f k := by
  unfold ofI ofF factP
  by_cases h : k = 0
  · subst h
    rfl
  · rw [if_neg h, if_neg (by omega), if_neg (by omega)]
    rfl
theorem factP_nil : factP (fun _ => none) = fun _ => none := by
  funext p
  unfold factP
  split <;> rfl
theorem u32Zero (w : World) : (zeroValue 22).run Tryz.prog w = .ok (valOf (some .u32) 0) w := by kernel_rfl
theorem wf_range {p : Int} (h0 : -4611686018427387904 ≤ p) (h1 : p ≤ 4611686018427387904) : (Lit.int .i64 p).wf = true := by
  have e0 : IntKind.i64.min = -9223372036854775808 := by decide
  have e1 : IntKind.i64.max = 9223372036854775807 := by decide
  simp only [Lit.wf, e0, e1]
  simp only [Bool.and_eq_true, decide_eq_true_eq]
  omega
theorem wf_u32 {v : Int} (h : Reg32 v) : wfOf (some .u32) v := by
  have e0 : IntKind.u32.min = 0 := by decide
  have e1 : IntKind.u32.max = 4294967295 := by decide
  have h0 := h.1
  have h1 := h.2
  show (Lit.int .u32 v).wf = true
  simp only [Lit.wf, e0, e1]
  simp only [Bool.and_eq_true, decide_eq_true_eq]
  omega
section
variable {w : World} {b n : Nat} {f : Facts}
theorem factsOf (h : FactsM w b f n) {p : Int} (h0 : -4611686018427387904 ≤ p) (h1 : p ≤ 4611686018427387904) :
    Calls Tryz.prog 46 #[.map (some b), .int .i64 p] w fun e w' => e = .returned (.tuple #[.int .u32 ((ofI f p).getD 0), .bool (ofI f p).isSome]) ∧ w = w' := by
  have hl := h.look_ok (t := 115) Tryz.underlying3 Tryz.underlying115 Tryz.underlying22 (u32Zero w) (p := p) (wf_range h0 h1)
  unfold ofI
  by_cases e : p = 0
  · subst e
    clear hl h
    rw [if_pos rfl]
    show Calls _ _ _ _ fun e w' => e = .returned (.tuple #[.int .u32 0, .bool true]) ∧ w = w'
    go_enter Tryz.func46, Tryz.ntmps46
    go_wp2
    go_ret2
    exact ⟨rfl, rfl⟩
  · rw [if_neg e]
    have hf : (p == 0) = false := by simpa using e
    unfold valOf at hl
    clear h
    generalize (factP f p).getD 0 = v at *
    generalize (factP f p).isSome = q at *
    simp only at hl
    clear e h0 h1
    go_enter Tryz.func46, Tryz.ntmps46
    go_wp2
    go_ret2
    exact ⟨rfl, rfl⟩
theorem factP_learn_set (f : Facts) {d : Nat} (h0 : d ≠ 0) (im : Int) : updF (updF (factP f) (d : Int) none) (d : Int) (some im) = factP (fun k => if k = d then some im else f k) := by
  funext x
  unfold updF factP
  by_cases e : x = (d : Int)
  · subst e
    rw [if_pos rfl, if_neg (by omega)]
    exact (if_pos (by omega)).symm
  · rw [if_neg e, if_neg e]
    by_cases e2 : x < 0
    · rw [if_pos e2, if_pos e2]
    · rw [if_neg e2, if_neg e2]
      exact (if_neg (by omega)).symm
theorem factP_learn_del (f : Facts) {d : Nat} (h0 : d ≠ 0) : updF (factP f) (d : Int) none = factP (fun k => if k = d then none else f k) := by
  funext x
  unfold updF factP
  by_cases e : x = (d : Int)
  · subst e
    rw [if_pos rfl, if_neg (by omega)]
    exact (if_pos (by omega)).symm
  · rw [if_neg e]
    by_cases e2 : x < 0
    · rw [if_pos e2, if_pos e2]
    · rw [if_neg e2, if_neg e2]
      exact (if_neg (by omega)).symm
theorem lit_ne_set {k : OpK} (h : k ≠ .set) : (k.lit.toList == [115, 101, 116]) = false ∧ ¬ k.lit.toList = [115, 101, 116] := by
  cases k <;> first | exact absurd rfl h | exact ⟨by decide +kernel, by decide +kernel⟩
def learnP (w : World) (b n : Nat) (F : Facts) (e : Ending) (w' : World) : Prop := e = .returned (.tuple #[]) ∧ FactsM w' b F (n + 1) ∧ Kept (fun k => k = b) w w'
set_option maxHeartbeats 8000000 in
set_option maxRecDepth 100000 in
theorem factsLearn_at {k : OpK} {d a m : Nat} {b1 im : Int} (h : FactsM w b f n) (hn : n < 1099511627776) (hd : d < 64) (hi : Reg32 im) :
    Calls Tryz.prog 49 #[.map (some b), .agg #[.string k.lit, .int .i64 (d : Int), .int .i64 (a : Int), .int .i64 b1, .int .u32 im, .int .i64 (m : Int)]] w fun e w' => learnP w b n (learnF f ⟨k, d, a, b1, im, m⟩) e w' := by
  have hb' := (Below.refl w.heap.size w).alloc (Nat.le_refl _) (.cells #[.string k.lit, .int .i64 (d : Int), .int .i64 (a : Int), .int .i64 b1, .int .u32 im, .int .i64 (m : Int)] 61)
  have HBX := Lib.hid (heap_alloc_new w (.cells #[.string k.lit, .int .i64 (d : Int), .int .i64 (a : Int), .int .i64 b1, .int .u32 im, .int .i64 (m : Int)] 61))
  have HW := Lib.hid (fun wx => optWrites_at (d := d) (a := a) (n := m) (b := b1) (im := im) k wx)
  have HN := Lib.hid hn
  have HI := Lib.hid hi
  have HLT := Lib.hid h.lt
  have hwd : wrO ⟨k, d, a, b1, im, m⟩ = 0 ∨ wrO ⟨k, d, a, b1, im, m⟩ = d := by cases k <;> simp [wrO]
  have HL : Hid (learnF f ⟨k, d, a, b1, im, m⟩ = if wrO ⟨k, d, a, b1, im, m⟩ = 0 then f else fun x => if x = wrO ⟨k, d, a, b1, im, m⟩ then (if k = .set then some im else none) else f x) := Lib.hid rfl
  have HK := Lib.hid (Kept.of_below (S := fun k => k = b) hb')
  have HM0 := Lib.hid (h.of_block (hb'.block b h.lt))
  generalize learnF f ⟨k, d, a, b1, im, m⟩ = F at *
  generalize wrO ⟨k, d, a, b1, im, m⟩ = wd at *
  have hd64 : (wd : Int) < 64 := by omega
  clear h hn hi hd hwd hb'
  by_cases e : wd = 0
  · subst e
    rw [if_pos rfl] at HL
    generalize k.lit = kt at *
    go_enter Tryz.func49, Tryz.ntmps49
    go_wp2_with fail
    generalize w.alloc (.cells #[.string kt, .int .i64 (d : Int), .int .i64 (a : Int), .int .i64 b1, .int .u32 im, .int .i64 (m : Int)] 61) = W at *
    obtain ⟨c0, c1, c2, c3, c4, c5⟩ := six_cells HBX.out
    go_wp2_with fail
    refine (HW.out _).mono ?_
    rintro e w2 ⟨rfl, hb2⟩
    have HB2 := Lib.hid hb2
    clear hb2 c0 c1 c2 c3 c4 c5
    go_wp2_with fail
    go_end0
    exact ⟨rfl, by rw [HL.out]; exact (HM0.out.of_block (HB2.out.block b HM0.out.lt)).mono (Nat.le_succ _), HK.out.trans (Kept.of_below HB2.out)⟩
  · rw [if_neg e] at HL
    have he : ((wd : Int) != 0) = true := by simpa using e
    have HE := Lib.hid e
    clear e
    by_cases e2 : k = .set
    · subst e2
      rw [if_pos rfl] at HL
      simp only [OpK.lit] at *
      go_enter Tryz.func49, Tryz.ntmps49
      go_wp2_with fail
      generalize w.alloc (.cells #[.string ⟨#[115, 101, 116]⟩, .int .i64 (d : Int), .int .i64 (a : Int), .int .i64 b1, .int .u32 im, .int .i64 (m : Int)] 61) = W at *
      obtain ⟨c0, c1, c2, c3, c4, c5⟩ := six_cells HBX.out
      go_wp2_with fail
      refine (HW.out _).mono ?_
      rintro e w2 ⟨rfl, hb2⟩
      have HM2 := Lib.hid (HM0.out.of_block (hb2.block b HM0.out.lt))
      have HBX2 := Lib.hid ((hb2.block _ (Array.getElem?_eq_some_iff.1 HBX.out).1).trans HBX.out)
      have HK2 := Lib.hid (HK.out.trans (Kept.of_below hb2))
      clear hb2 c0 c1 c2 c3 c4 c5 HM0 HBX HK
      go_wp2_with (refine wpList_mapF_del rfl (.tmp 9) (.tmp 10) 115 rfl HM2.out Tryz.underlying3 Tryz.underlying115 (p := (wd : Int)) (wf_range (by omega) (by omega)) rfl rfl ?_)
      intro w3 hm3 hk3
      have HM3 := Lib.hid hm3
      have HBX3 := Lib.hid ((hk3.same _ (Array.getElem?_eq_some_iff.1 HBX2.out).1 (fun e => by have := HLT.out; omega)).trans HBX2.out)
      have HK3 := Lib.hid (HK2.out.trans hk3)
      clear hm3 hk3
      obtain ⟨c0, c1, c2, c3, c4, c5⟩ := six_cells HBX3.out
      go_wp2_with (refine wpList_mapF_put rfl (.tmp 14) (.tmp 15) (.tmp 17) 115 rfl HM3.out Tryz.underlying3 Tryz.underlying115 Tryz.underlying22 (by unfold maxLen; have := HN.out; omega) (p := (wd : Int)) (y := im) (wf_range (by omega) (by omega)) (wf_u32 HI.out) rfl rfl rfl ?_)
      intro w4 hm4 hk4
      have HM4 := Lib.hid hm4
      have HK4 := Lib.hid (HK3.out.trans hk4)
      clear hm4 hk4 c0 c1 c2 c3 c4 c5
      go_wp2_with fail
      go_end0
      exact ⟨rfl, by rw [HL.out]; unfold FactsM; rw [← factP_learn_set f HE.out im]; exact HM4.out, HK4.out⟩
    · rw [if_neg e2] at HL
      obtain ⟨n1, n2⟩ := lit_ne_set e2
      clear e2
      generalize k.lit = kt at *
      go_enter Tryz.func49, Tryz.ntmps49
      go_wp2_with fail
      generalize w.alloc (.cells #[.string kt, .int .i64 (d : Int), .int .i64 (a : Int), .int .i64 b1, .int .u32 im, .int .i64 (m : Int)] 61) = W at *
      obtain ⟨c0, c1, c2, c3, c4, c5⟩ := six_cells HBX.out
      go_wp2_with fail
      refine (HW.out _).mono ?_
      rintro e w2 ⟨rfl, hb2⟩
      have HM2 := Lib.hid (HM0.out.of_block (hb2.block b HM0.out.lt))
      have HBX2 := Lib.hid ((hb2.block _ (Array.getElem?_eq_some_iff.1 HBX.out).1).trans HBX.out)
      have HK2 := Lib.hid (HK.out.trans (Kept.of_below hb2))
      clear hb2 c0 c1 c2 c3 c4 c5 HM0 HBX HK
      go_wp2_with (refine wpList_mapF_del rfl (.tmp 9) (.tmp 10) 115 rfl HM2.out Tryz.underlying3 Tryz.underlying115 (p := (wd : Int)) (wf_range (by omega) (by omega)) rfl rfl ?_)
      intro w3 hm3 hk3
      have HM3 := Lib.hid hm3
      have HBX3 := Lib.hid ((hk3.same _ (Array.getElem?_eq_some_iff.1 HBX2.out).1 (fun e => by have := HLT.out; omega)).trans HBX2.out)
      have HK3 := Lib.hid (HK2.out.trans hk3)
      clear hm3 hk3
      obtain ⟨c0, c1, c2, c3, c4, c5⟩ := six_cells HBX3.out
      go_wp2_with fail
      go_end0
      exact ⟨rfl, by rw [HL.out]; unfold FactsM; rw [← factP_learn_del f HE.out]; exact HM3.out.mono (Nat.le_succ _), HK3.out⟩
set_option maxHeartbeats 8000000 in
set_option maxRecDepth 100000 in
theorem foldable_at {k : OpK} {d a m : Nat} {b1 im : Int} (h : FactsM w b f n) (hg : opG ⟨k, d, a, b1, im, m⟩) :
    Calls Tryz.prog 47 #[.map (some b), .agg #[.string k.lit, .int .i64 (d : Int), .int .i64 (a : Int), .int .i64 b1, .int .u32 im, .int .i64 (m : Int)]] w fun e w' => e = .returned (.bool (foldableF f ⟨k, d, a, b1, im, m⟩)) ∧ Below w.heap.size w w' := by
  have hb' := (Below.refl w.heap.size w).alloc (Nat.le_refl _) (.cells #[.string k.lit, .int .i64 (d : Int), .int .i64 (a : Int), .int .i64 b1, .int .u32 im, .int .i64 (m : Int)] 61)
  have HBX := Lib.hid (heap_alloc_new w (.cells #[.string k.lit, .int .i64 (d : Int), .int .i64 (a : Int), .int .i64 b1, .int .u32 im, .int .i64 (m : Int)] 61))
  have HB := Lib.hid hb'
  have HD := Lib.hid (fun wx => irDiv_any k wx)
  have HS := Lib.hid (fun wx => irSum_any k wx)
  have HM0 := Lib.hid (h.of_block (hb'.block b h.lt))
  by_cases hs : isSumK k = true
  · obtain ⟨-, -, ha, hb0, hb1, -⟩ := sumK_G (o := ⟨k, d, a, b1, im, m⟩) hs hg
    simp only at ha hb0 hb1
    have e1 : sumKB k = true ∧ divKB k = false := by revert hs; cases k <;> simp [isSumK, sumKB, divKB]
    have HO : Hid (foldableF f ⟨k, d, a, b1, im, m⟩ = ((ofI f (a : Int)).isSome && (ofI f b1).isSome)) := by
      refine Lib.hid ?_
      unfold foldableF
      rw [hs, Bool.true_and, ofI_nat]
      obtain ⟨bn, rfl⟩ := Int.eq_ofNat_of_zero_le hb0
      rw [ofI_nat]
      rfl
    have HA := Lib.hid (fun (wx : World) (hx : FactsM wx b f n) => factsOf hx (p := (a : Int)) (by omega) (by omega))
    have HB2 := Lib.hid (fun (wx : World) (hx : FactsM wx b f n) => factsOf hx (p := b1) (by omega) (by omega))
    rw [e1.1] at HS
    rw [e1.2] at HD
    generalize foldableF f ⟨k, d, a, b1, im, m⟩ = q at *
    generalize (ofI f (a : Int)).getD 0 = v1 at *
    generalize (ofI f (a : Int)).isSome = q1 at *
    generalize (ofI f b1).getD 0 = v2 at *
    generalize (ofI f b1).isSome = q2 at *
    clear h hg hb' hs ha hb0 hb1 e1
    generalize k.lit = kt at *
    go_enter Tryz.func47, Tryz.ntmps47
    go_wp2_with fail
    generalize w.alloc (.cells #[.string kt, .int .i64 (d : Int), .int .i64 (a : Int), .int .i64 b1, .int .u32 im, .int .i64 (m : Int)] 61) = W at *
    obtain ⟨c0, c1, c2, c3, c4, c5⟩ := six_cells HBX.out
    go_wp2_with (first | (go_at_call 78; (with_reducible refine (HD.out _).mono ?_); rintro e w1 ⟨rfl, rfl⟩) | (go_at_call 77; (with_reducible refine (HS.out _).mono ?_); rintro e w1 ⟨rfl, rfl⟩) | (go_at_call 46; (first | (with_reducible refine (HA.out _ HM0.out).mono ?_) | (with_reducible refine (HB2.out _ HM0.out).mono ?_)); rintro e w1 ⟨rfl, rfl⟩))
    all_goals (cases q1 <;> first | contradiction | (go_wp2; go_ret; exact ⟨by rw [HO.out]; first | rfl | simp, HB.out⟩))
  · have HO : Hid (foldableF f ⟨k, d, a, b1, im, m⟩ = false) := by
      refine Lib.hid ?_
      unfold foldableF
      rw [Bool.eq_false_iff.2 hs]
      rfl
    have e1 : sumKB k = false ∨ (sumKB k = true ∧ divKB k = true) := by revert hs; cases k <;> simp [isSumK, sumKB, divKB]
    generalize foldableF f ⟨k, d, a, b1, im, m⟩ = q at *
    clear h hg hb' hs
    generalize k.lit = kt at *
    generalize sumKB k = s1 at *
    generalize divKB k = s2 at *
    rcases e1 with rfl | ⟨rfl, rfl⟩ <;>
    (go_enter Tryz.func47, Tryz.ntmps47
     go_wp2_with fail
     generalize w.alloc (.cells #[.string kt, .int .i64 (d : Int), .int .i64 (a : Int), .int .i64 b1, .int .u32 im, .int .i64 (m : Int)] 61) = W at *
     obtain ⟨c0, c1, c2, c3, c4, c5⟩ := six_cells HBX.out
     go_wp2_with (first | (go_at_call 78; (with_reducible refine (HD.out _).mono ?_); rintro e w1 ⟨rfl, rfl⟩) | (go_at_call 77; (with_reducible refine (HS.out _).mono ?_); rintro e w1 ⟨rfl, rfl⟩))
     go_ret
     exact ⟨by rw [HO.out]; rfl, HB.out⟩)
end
end Go.Proofs.YtlnefmgiiogcmaaGreatDoor
namespace Go.Proofs.YtlnefmgiiogcmaaGreatDoor
open Go.RowKit
theorem Tryz.infoOz : (Tryz.prog.info? 61).map (·.size) = some 6 := by kernel_rfl
theorem set_one (s : ByteArray) (a b c v n : Int) : (#[.string s, .int .i64 a, .int .i64 b, .int .i64 c, .int .u32 v, .int .i64 n] : Array Value).all (·.oneCell') = true := all_oneCell_toArray (cs := [.string s, .int .i64 a, .int .i64 b, .int .i64 c, .int .u32 v, .int .i64 n]) (by
  intro u hu
  simp only [List.mem_cons, List.not_mem_nil, or_false] at hu
  rcases hu with rfl | rfl | rfl | rfl | rfl | rfl <;> rfl)
theorem flat_len : ∀ (L : List OpN), (L.flatMap opC).length = L.length * 6
  | [] => rfl
  | o :: L => by rw [List.flatMap_cons, List.length_append, flat_len L]; simp [opC]; omega
theorem OpsAt.flat {w : World} {g : Nat} {ops : List OpN} (h : OpsAt w g ops) (j : Nat) (u : Value) (hj : (ops.flatMap opC)[j]? = some u) : w.cell? ⟨g, j, none⟩ = some u := by
  have hlt := (List.getElem?_eq_some_iff.1 hj).1
  rw [flat_len] at hlt
  have h1 : j / 6 < ops.length := by omega
  have h2 := flat6 ops (j / 6) h1 (j % 6) (by omega)
  rw [show j / 6 * 6 + j % 6 = j by omega, hj] at h2
  have := h.row (j / 6) h1 (j % 6) u h2.symm
  rw [show j / 6 * 6 + j % 6 = j by omega] at this
  exact this
theorem flat_one (L : List OpN) : ∀ u ∈ L.flatMap opC, u.oneCell' = true := by
  intro u hu
  obtain ⟨o, _, h⟩ := List.mem_flatMap.1 hu
  exact opC_one o u h
structure OpsW (w : World) (g : Nat) (l : List OpN) : Prop where
  is : OpsAt w g l
  ty : ∃ n f, Row w g 61 n f ∧ l.length * 6 ≤ n
theorem OpsW.of_block {w w' : World} {g : Nat} {l : List OpN} (h : OpsW w g l) (e : w'.heap[g]? = w.heap[g]?) : OpsW w' g l where
  is := h.is.of_block e
  ty := by
    obtain ⟨n, f, h1, h2⟩ := h.ty
    exact ⟨n, f, h1.of_block e, h2⟩
theorem OpsW.there {w : World} {g : Nat} {l : List OpN} (h : OpsW w g l) {j : Nat} (hj : j < l.length) : w.there g (j * 6) 6 := fun c hc => by
  obtain ⟨n, f, h1, h2⟩ := h.ty
  exact ⟨(h.is.row j hj).isSome c hc, h1.free _⟩
theorem OpsW.free {w : World} {g : Nat} {l : List OpN} (h : OpsW w g l) (i : Nat) : w.frozen? ⟨g, i, none⟩ = false := by
  obtain ⟨n, f, h1, h2⟩ := h.ty
  exact h1.free i
theorem OpsW.put {w : World} {g : Nat} {l : List OpN} (h : OpsW w g l) {j : Nat} (hj : j < l.length) (x : OpN) : OpsW (w.setCells g (j * 6) (opC x)) g (l.set j x) where
  is := by
    refine ⟨fun i hi => ?_, Nat.lt_of_lt_of_le h.is.lt (Kept.setCells g (opC x) w (j * 6)).below.size⟩
    rw [List.length_set] at hi
    by_cases e : i = j
    · subst e
      rw [List.getElem_set_self]
      exact World.rangeAt_setCells_same w g (i * 6) (opC x) (h.there hj)
    · rw [List.getElem_set_ne (fun e2 => e e2.symm)]
      exact World.rangeAt_setCells_apart (h.is.row i hi) g (j * 6) (opC x) (Or.inr (by simp [opC]; omega))
  ty := by
    obtain ⟨n, f, h1, h2⟩ := h.ty
    exact ⟨n, _, Row.setCells (opC x) w f (j * 6) h1 (by simp [opC]; omega), by rw [List.length_set]; exact h2⟩
theorem OpsW.kept {S : Nat → Prop} {w w' : World} {g : Nat} {l : List OpN} (h : OpsW w g l) (hk : Kept S w w') (hs : ¬ S g) : OpsW w' g l := h.of_block (hk.same g h.is.lt hs)
theorem opsW_own {w : World} {B : Nat} {v : Value} {ops : List OpN} (h : w.ownsRow B 61 6 v ops.length (ops.flatMap opC)) (hn : 0 < ops.length) :
    ∃ g cap, v = .slice (some ⟨g, 0, none⟩) ops.length cap ∧ B ≤ g ∧ ops.length ≤ cap ∧ OpsW w g ops := by
  obtain ⟨g, cap, hv, hg, hc, hat⟩ := opsAt_own h hn
  refine ⟨g, cap, hv, hg, hc, hat, ?_⟩
  obtain ⟨hl, h' | ⟨g2, cap2, cur, hv2, hg2, hh, hc2, hm, hs, ht⟩⟩ := id h
  · exact absurd h'.2 (by omega)
  · have hgg : g = g2 := by
      rw [hv] at hv2
      simp only [Value.slice.injEq, Option.some.injEq, Addr.mk.injEq] at hv2
      exact hv2.1.1
    subst hgg
    refine ⟨cur.size, fun k => cur.getD k (.bool false), ⟨cur, hh, rfl, fun k hk => by rw [Array.getElem?_eq_getElem hk, Array.getD, dif_pos hk]; rfl⟩, ?_⟩
    have := congrArg List.length ht
    rw [List.length_take, flat_len, Array.length_toList] at this
    omega
def CloneP (w : World) (ops : List OpN) (e : Ending) (w' : World) : Prop := ∃ g cap, e = .returned (.slice (some ⟨g, 0, none⟩) ops.length cap) ∧ w.heap.size ≤ g ∧ ops.length ≤ cap ∧ OpsW w' g ops ∧ Below w.heap.size w w'
set_option maxHeartbeats 4000000 in
set_option maxRecDepth 100000 in
theorem cloneOps {w : World} {g cap : Nat} {ops : List OpN} (h : OpsAt w g ops) (h0 : 0 < ops.length) (hl : ops.length ≤ 1000) :
    Calls Tryz.prog 23 #[.slice (some ⟨g, 0, none⟩) ops.length cap] w fun e w' => CloneP w ops e w' := by
  have HO := Lib.hid h
  have HL := Lib.hid hl
  have H0 := Lib.hid h0
  obtain ⟨iS, hS1, hS2, hS3, hS4⟩ := info_parts Tryz.infoO
  have q22 : ∀ (w : World) (a : Option Addr) (n c n' c' : Nat), (binOp .eql 32 (.slice a n c) (.slice none n' c')).run Tryz.prog w = .ok (.bool a.isNone) w := fun w a n c n' c' => Lib.run_eql_slice_nil w _ _ a n c n' c' Tryz.underlying32
  clear h hl h0
  go_enter Tryz.func23, Tryz.ntmps23
  go_wp2_with (at_builtin; refine wpList_append_own _ rfl _ _ 32 rfl w.heap.size 61 iS (.agg #[.string ByteArray.empty, .int .i64 0, .int .i64 0, .int .i64 0, .int .u32 0, .int .i64 0]) 6 56 Tryz.underlying32 hS1 hS2 hS3 hS4 rfl (by decide) _ _ _ rfl (World.ownsRow_made w #[] 0 (Nat.le_refl _) (Nat.zero_le _) (by simp)) ⟨g, 0, none⟩ ops.length cap (ops.flatMap opC) rfl ?qc1 ?qc2 ?qc3 ?qc4 ?qc5 ?qc6 ?_)
  case qc1 => exact flat_len ops
  case qc2 =>
    intro j u hj
    rw [addr_add]
    exact Lib.cell?_alloc_some _ (HO.out.flat j u hj)
  case qc3 => exact flat_one ops
  case qc4 => rw [Nat.zero_add]; have := HL.out; unfold maxLen; omega
  case qc5 => rw [Nat.zero_add]; have := HL.out; omega
  case qc6 => simp
  intro v' w1 hown hgrow hnil
  have HOW := Lib.hid (show w1.ownsRow w.heap.size 61 6 v' ops.length (ops.flatMap opC) by simpa using hown)
  have HG := Lib.hid hgrow
  clear hown hgrow hnil
  go_wp2
  go_ret
  obtain ⟨g', cap', rfl, hg', hc', hw'⟩ := opsW_own HOW.out H0.out
  exact ⟨g', cap', rfl, hg', hc', hw', ((Below.refl _ w).alloc (Nat.le_refl _) _).grown HG.out (by simp) (by intro k hk; simp [Value.ownBlock] at hk; omega)⟩
end Go.Proofs.YtlnefmgiiogcmaaGreatDoor
namespace Go.Proofs.YtlnefmgiiogcmaaGreatDoor
open Go.RowKit
theorem bwT {a w w2 : World} (h : Below a.heap.size a w) (h2 : Below w.heap.size w w2) : Below a.heap.size a w2 := h.trans (h2.mono h.size)
theorem bwA {a w : World} {o : Obj} (h : Below a.heap.size a w) : Below a.heap.size a (w.alloc o) := h.alloc h.size o
def noF : Facts := fun _ => none
def factsAt (z : List OpN) (j : Nat) : Facts := (z.take j).foldl learnF noF
theorem foldZ_len : ∀ (ops : List OpN) (f : Facts), (foldZ f ops).length = ops.length
  | [], _ => rfl
  | o :: os, f => by rw [foldZ, List.length_cons, foldZ_len os, List.length_cons]
theorem foldZ_at : ∀ (ops : List OpN) (f : Facts) (j : Nat) (h : j < ops.length), (foldZ f ops)[j]? = some (foldF (((foldZ f ops).take j).foldl learnF f) (ops[j]'h))
  | [], _, j, h => absurd h (Nat.not_lt_zero j)
  | o :: os, f, 0, h => rfl
  | o :: os, f, j + 1, h => by
    rw [foldZ, List.getElem?_cons_succ, List.take_succ_cons, List.foldl_cons, foldZ_at os _ j (by simpa using h)]
    rfl
theorem foldl_ok : ∀ (l : List OpN) (f : Facts), FactsOK f → (∀ o ∈ l, Reg32 o.imm) → FactsOK (l.foldl learnF f)
  | [], _, h, _ => h
  | o :: l, f, h, hl => by
    rw [List.foldl_cons]
    exact foldl_ok l _ (h.learn (hl o (List.mem_cons_self ..))) (fun x hx => hl x (List.mem_cons_of_mem _ hx))
theorem ofF_reg {f : Facts} (h : FactsOK f) (k : Nat) : Reg32 ((ofF f k).getD 0) := by
  cases e : ofF f k with
  | none => exact ⟨Int.le_refl _, by decide⟩
  | some v => exact h.of e
theorem noF_ok : FactsOK noF := fun k v h => by cases h
theorem foldZ_imm : ∀ (ops : List OpN) (f : Facts), FactsOK f → (∀ o ∈ ops, opG o ∧ Reg32 o.imm) → ∀ x ∈ foldZ f ops, opG x ∧ Reg32 x.imm
  | [], _, _, _, x, hx => by cases hx
  | o :: os, f, hf, h, x, hx => by
    have h0 := h o (List.mem_cons_self ..)
    have h1 := foldF_same hf h0.1 h0.2
    rcases List.mem_cons.1 hx with e | e
    · rw [e]
      exact ⟨h1.g, h1.imm⟩
    · exact foldZ_imm os _ (hf.learn h1.imm) (fun y hy => h y (List.mem_cons_of_mem _ hy)) x e
def mixL (ops z : List OpN) (j : Nat) : List OpN := z.take j ++ ops.drop j
theorem mixL_len {ops z : List OpN} (hz : z.length = ops.length) {j : Nat} (hj : j ≤ ops.length) : (mixL ops z j).length = ops.length := by
  unfold mixL
  rw [List.length_append, List.length_take, List.length_drop, hz]
  omega
theorem mixL_at {ops z : List OpN} (hz : z.length = ops.length) {j : Nat} (hj : j < ops.length) (h2 : j < (mixL ops z j).length) : (mixL ops z j)[j]'h2 = ops[j] := by
  have h3 : (mixL ops z j)[j]? = some ops[j] := by
    unfold mixL
    rw [List.getElem?_append_right (by rw [List.length_take]; omega), List.length_take, List.getElem?_drop, show j + (j - min j z.length) = j by omega, List.getElem?_eq_getElem hj]
  rw [List.getElem?_eq_getElem h2] at h3
  exact Option.some.inj h3
theorem mixL_set {ops z : List OpN} (hz : z.length = ops.length) {j : Nat} (hj : j < ops.length) : (mixL ops z j).set j (z[j]'(by omega)) = mixL ops z (j + 1) := by
  unfold mixL
  rw [List.set_append_right _ _ (by rw [List.length_take]; omega), List.length_take, show j - min j z.length = 0 by omega, List.drop_eq_getElem_cons hj, List.set_cons_zero, List.take_succ_eq_append_getElem (by omega), List.append_assoc]
  rfl
theorem opG_small {o : OpN} (h : opG o) : o.d < 64 ∧ o.a < 64 ∧ ((0 ≤ o.b ∧ o.b < 64) ∨ (o.b = -1 ∧ o.kind = .load) ∨ (o.b = -2 ∧ o.kind = .load)) := by
  obtain ⟨k, d, a, b, im, n⟩ := o
  cases k <;> simp only [opG] at h <;> simp only [reduceCtorEq, and_false, or_false, and_true] <;> omega
structure FoldS (w wr : World) (mb g : Nat) (ops z : List OpN) (j : Nat) : Prop where
  fm : FactsM wr mb (factsAt z j) j
  ow : OpsW wr g (mixL ops z j)
  bel : Below w.heap.size w wr
  n1 : w.heap.size ≤ mb
  n2 : w.heap.size ≤ g
  ne : mb ≠ g
def FoldP (w : World) (z : List OpN) (e : Ending) (w' : World) : Prop := ∃ g cap, e = .returned (.slice (some ⟨g, 0, none⟩) z.length cap) ∧ w.heap.size ≤ g ∧ z.length ≤ cap ∧ OpsW w' g z ∧ Below w.heap.size w w'
theorem foldS_same {w wr W : World} {mb g j : Nat} {ops z : List OpN} (h : FoldS w wr mb g ops z j) (hb : Below wr.heap.size wr W) : FoldS w W mb g ops z j where
  fm := h.fm.of_block (hb.block mb h.fm.lt)
  ow := h.ow.of_block (hb.block g h.ow.is.lt)
  bel := h.bel.trans (hb.mono h.bel.size)
  n1 := h.n1
  n2 := h.n2
  ne := h.ne
theorem foldS_next {w wr W : World} {mb g j : Nat} {ops z : List OpN} (hz : z.length = ops.length) (hj : j < ops.length) (hw : OpsW wr g (mixL ops z (j + 1))) (hbel : Below w.heap.size w wr) (n1 : w.heap.size ≤ mb) (n2 : w.heap.size ≤ g) (ne : mb ≠ g)
    (hl : FactsM W mb (learnF (factsAt z j) (z[j]'(by omega))) (j + 1)) (hk : Kept (fun k => k = mb) wr W) : FoldS w W mb g ops z (j + 1) where
  fm := by
    have e : factsAt z (j + 1) = learnF (factsAt z j) (z[j]'(by omega)) := by
      unfold factsAt
      rw [List.take_succ_eq_append_getElem (by omega), List.foldl_append]
      rfl
    rw [e]
    exact hl
  ow := hw.kept hk (fun e => ne e.symm)
  bel := hbel.trans (hk.to_below hbel.size (fun k hk2 e => by omega))
  n1 := n1
  n2 := n2
  ne := ne
theorem foldZ_get {ops : List OpN} {j : Nat} (hj : j < ops.length) (h2 : j < (foldZ noF ops).length) : (foldZ noF ops)[j]'h2 = foldF (factsAt (foldZ noF ops) j) (ops[j]'hj) := by
  have := foldZ_at ops noF j hj
  rw [List.getElem?_eq_getElem h2] at this
  exact Option.some.inj this
theorem fold_same {f : Facts} {o : OpN} (h1 : foldableF f o = false) (h2 : o.kind = .copy → (ofF f o.a).isSome = false) : foldF f o = o := by
  unfold foldF
  rw [if_neg (by rw [h1]; decide), if_neg (fun h => by rw [h2 h.1] at h; cases h.2)]
theorem lit_ne_copy {k : OpK} (h : k ≠ .copy) : (k.lit.toList == [99, 111, 112, 121]) = false ∧ ¬ k.lit.toList = [99, 111, 112, 121] := by
  cases k <;> first | exact absurd rfl h | exact ⟨by decide +kernel, by decide +kernel⟩
end Go.Proofs.YtlnefmgiiogcmaaGreatDoor
namespace Go.Proofs.YtlnefmgiiogcmaaGreatDoor
open Go.RowKit
theorem leavesK_O (k : OpK) : leavesK k = leavesO k := by cases k <;> rfl
set_option maxHeartbeats 8000000 in
theorem planClass_at {d a n : Nat} {b im : Int} (k : OpK) (w : World) :
    Calls Tryz.prog 82 #[.agg #[.string k.lit, .int .i64 (d : Int), .int .i64 (a : Int), .int .i64 b, .int .u32 im, .int .i64 (n : Int)]] w fun e w' => e = .returned (.int .i64 (classO ⟨k, d, a, b, im, n⟩ : Int)) ∧ Below w.heap.size w w' := by
  have hb' := (Below.refl w.heap.size w).alloc (Nat.le_refl _) (.cells #[.string k.lit, .int .i64 (d : Int), .int .i64 (a : Int), .int .i64 b, .int .u32 im, .int .i64 (n : Int)] 61)
  have HB := Lib.hid hb'
  have HS := Lib.hid (fun wx => (by have := irLeaves_any k wx; rw [lit_text] at this; exact this : Calls Tryz.prog 30 #[.string k.lit] wx fun e w' => e = .returned (.bool (leavesK k)) ∧ wx = w'))
  clear hb'
  cases k <;> simp only [OpK.lit, leavesK] at HB HS ⊢ <;> (go_enter Tryz.func82, Tryz.ntmps82; go_wp2_with (go_at_call 30; (with_reducible refine (HS.out _).mono ?_); rintro e w1 ⟨rfl, rfl⟩); go_ret; exact ⟨rfl, HB.out⟩)
theorem planClass (o : OpN) (w : World) : Calls Tryz.prog 82 #[opV o] w fun e w' => e = .returned (.int .i64 (classO o : Int)) ∧ Below w.heap.size w w' := by
  obtain ⟨k, d, a, b, im, n⟩ := o
  have := planClass_at (d := d) (a := a) (n := n) (b := b) (im := im) k w
  rw [← lit_text] at this
  exact this
theorem classO_3 (o : OpN) : classO o = 0 ∨ classO o = 1 ∨ classO o = 2 := by
  unfold classO
  split
  · exact Or.inr (Or.inl rfl)
  · split
    · exact Or.inr (Or.inr rfl)
    · exact Or.inl rfl
theorem planRoom (c : Nat) (hc : c = 0 ∨ c = 1 ∨ c = 2) (w : World) : Calls Tryz.prog 84 #[.int .i64 (c : Int)] w fun e w' => e = .returned (.int .i64 (roomC c : Int)) ∧ w = w' := by
  rcases hc with rfl | rfl | rfl <;> (go_enter Tryz.func84, Tryz.ntmps84; go_wp2; go_ret; exact ⟨rfl, rfl⟩)
set_option maxHeartbeats 8000000 in
theorem planFinal_at {d a n : Nat} {b im : Int} (k : OpK) (w : World) :
    Calls Tryz.prog 92 #[.agg #[.string k.lit, .int .i64 (d : Int), .int .i64 (a : Int), .int .i64 b, .int .u32 im, .int .i64 (n : Int)]] w fun e w' => e = .returned (.bool (outK k)) ∧ Below w.heap.size w w' := by
  have HB := Lib.hid ((Below.refl w.heap.size w).alloc (Nat.le_refl _) (.cells #[.string k.lit, .int .i64 (d : Int), .int .i64 (a : Int), .int .i64 b, .int .u32 im, .int .i64 (n : Int)] 61))
  cases k <;> simp only [OpK.lit, outK] at HB ⊢ <;> (go_enter Tryz.func92, Tryz.ntmps92; go_wp2; go_ret; exact ⟨rfl, HB.out⟩)
theorem planFinal (o : OpN) (w : World) : Calls Tryz.prog 92 #[opV o] w fun e w' => e = .returned (.bool (outK o.kind)) ∧ Below w.heap.size w w' := by
  obtain ⟨k, d, a, b, im, n⟩ := o
  have := planFinal_at (d := d) (a := a) (n := n) (b := b) (im := im) k w
  rw [← lit_text] at this
  exact this
end Go.Proofs.YtlnefmgiiogcmaaGreatDoor
namespace Go.Proofs.YtlnefmgiiogcmaaGreatDoor
open Go.RowKit
theorem two_cells {w : World} {b : Nat} {t : TypeId} {a0 a1 : Value} {fr : Nat × Nat} (h : w.heap[b]? = some (Obj.cells #[a0, a1] t fr)) : w.cell? ⟨b, 0, none⟩ = some a0 ∧ w.cell? ⟨b, 1, none⟩ = some a1 := by
  refine ⟨?_, ?_⟩ <;> simp [World.cell?, h]
theorem two_free {w : World} {b : Nat} {t : TypeId} {a0 a1 : Value} (h : w.heap[b]? = some (Obj.cells #[a0, a1] t (0, 0))) : w.frozen? ⟨b, 0, none⟩ = false ∧ w.frozen? ⟨b, 1, none⟩ = false := by
  refine ⟨?_, ?_⟩ <;> simp [World.frozen?, h]
theorem EvS.below {w w' : World} {r bb mw mh mb B n : Nat} {X : Regs} {wv : Value} {ws : List Int} {wt ht : Nat → Bool} {W : List StoW} (h : EvS w r bb mw mh mb B n X wv ws wt ht W) (hb : Below w.heap.size w w') : EvS w' r bb mw mh mb B n X wv ws wt ht W := h.step (h.mp.of_block (hb.block mb h.mp.lt)) (.of_below hb) h.regs
theorem stores_take (ops : List OpN) (j : Nat) : storesO (ops.take j) ≤ storesO ops := by
  conv => rhs; rw [← List.take_append_drop j ops, storesO_app]
  omega
theorem stores_next (ops : List OpN) {j : Nat} (hj : j < ops.length) : storesO (ops.take (j + 1)) = storesO (ops.take j) + (if storeK ops[j].kind = true then 1 else 0) := by
  rw [List.take_succ_eq_append_getElem hj, storesO_app]
  congr 1
  unfold storesO
  cases h : storeK ops[j].kind <;> simp [h]
def EvalP (w : World) (sb r bb mw mh n : Nat) (s : StF) (ws : List Int) (wt ht : Nat → Bool) (many : Nat) (x : Ran) (e : Ending) (w' : World) : Prop := match x with
  | .trap i => e = .returned (.tuple #[.agg #[.bool true, .int .i64 (i : Int)], .nilIface]) ∧ Below w.heap.size w w'
  | .leave pc X us => e = .returned (.tuple #[.agg #[.bool false, .int .i64 0], .nilIface]) ∧ StB w' sb (leftS s X pc many) ∧ (∃ n', RamP w' r bb mw mh us wt ht n') ∧ Kept (fun k => k = sb ∨ k = bb ∨ k = mh) w w'
  | .fell => True
set_option maxHeartbeats 32000000 in
set_option maxRecDepth 100000 in
theorem evalP_any {w : World} {sb r g cap many bb mw mh n : Nat} {ops : List OpN} {pc mx : Int} {s : StF} {ws : List Int} {wt ht : Nat → Bool} {ad : Nat → Addr} (hs : StB w sb s) (hrm : RamP w r bb mw mh ws wt ht n) (h : OpsAt w g ops) (hc : CodeOK many ops) (hm : w.cell? ⟨8, 0, none⟩ = some (.int .i64 mx)) (hse : Sents w ad)
    (hp : s.slot = false) (hn : s.next = (s.pc + 4) % 4294967296) (hpc : s.pc = pc) (c0 : 0 ≤ s.count) (c1 : s.count ≤ 4611686018427387904) (hX : RegsOK (regsP s)) (hsep : r ≠ sb ∧ bb ≠ sb ∧ mw ≠ sb ∧ mh ≠ sb) (hdd : bb ≠ mw ∧ bb ≠ mh ∧ bb ≠ r ∧ mh ≠ r) (hnn : n < 1099511627000) :
    Calls Tryz.prog 11 #[.agg #[.int .u32 pc, .int .i64 (many : Int), .slice (some ⟨g, 0, none⟩) ops.length cap], .pointer (some ⟨sb, 0, none⟩), .pointer (some ⟨r, 0, none⟩)] w fun e w' => EvalP w sb r bb mw mh n s ws wt ht many (evalZ wt ops (regsP s) ws) e w' := by
  have HRAM := Lib.hid hrm
  have HSEP := Lib.hid (And.intro hsep (And.intro hdd hnn))
  have HXX := Lib.hid hX
  have HSE := Lib.hid hse
  clear hrm hsep hdd hnn hX hse
  obtain ⟨Z, hZ⟩ : ∃ Z, evalZ wt ops (regsP s) ws = Z := ⟨_, rfl⟩
  rw [hZ]
  have HZ0 : Hid (evalZ wt (ops.drop 0) (regsP s) (applyW ws []) = Z) := Lib.hid (by rw [List.drop_zero]; exact hZ)
  clear hZ
  have hb1 := (Below.refl w.heap.size w).alloc (Nat.le_refl _) (.cells #[.int .u32 pc, .int .i64 (many : Int), .slice (some ⟨g, 0, none⟩) ops.length cap] 34)
  have hb2 := hb1.alloc hb1.size (.cells #[.bool false, .int .i64 0] 52)
  have HB := Lib.hid hb2
  have HC := Lib.hid hc
  have HBX : Hid (CodeBox ((w.alloc (.cells #[.int .u32 pc, .int .i64 (many : Int), .slice (some ⟨g, 0, none⟩) ops.length cap] 34)).alloc (.cells #[.bool false, .int .i64 0] 52)) w.heap.size pc many (.slice (some ⟨g, 0, none⟩) ops.length cap)) := Lib.hid ((Below.heap_alloc _ _ _ (by simp)).trans (heap_alloc_new w _))
  have HSZ : Hid (w.heap.size + 1 < ((w.alloc (.cells #[.int .u32 pc, .int .i64 (many : Int), .slice (some ⟨g, 0, none⟩) ops.length cap] 34)).alloc (.cells #[.bool false, .int .i64 0] 52)).heap.size) := Lib.hid (by simp)
  have HED : Hid (((w.alloc (.cells #[.int .u32 pc, .int .i64 (many : Int), .slice (some ⟨g, 0, none⟩) ops.length cap] 34)).alloc (.cells #[.bool false, .int .i64 0] 52)).heap[w.heap.size + 1]? = some (.cells #[.bool false, .int .i64 0] 52 (0, 0))) := Lib.hid (by have := heap_alloc_new (w.alloc (.cells #[.int .u32 pc, .int .i64 (many : Int), .slice (some ⟨g, 0, none⟩) ops.length cap] 34)) (.cells #[.bool false, .int .i64 0] 52); simpa using this)
  have HS := Lib.hid (show StB ((w.alloc (.cells #[.int .u32 pc, .int .i64 (many : Int), .slice (some ⟨g, 0, none⟩) ops.length cap] 34)).alloc (.cells #[.bool false, .int .i64 0] 52)) sb s from hs.of_block (hb2.block sb hs.lt))
  have HO := Lib.hid (h.below hb2 h.lt)
  have HMX := Lib.hid ((hb2.cell (p := ⟨8, 0, none⟩) (World.block_lt_of_cell? _ _ hm)).trans hm)
  have HLT := Lib.hid hs.lt
  have HGL := Lib.hid h.lt
  have HRD := Lib.hid (And.intro hp (And.intro hn hpc))
  have HCT := Lib.hid (And.intro c0 c1)
  have l1 : (ops.length : Int) ≤ 100 := by have := hc.len; omega
  clear hs h hc hm hp hn hpc c0 c1 hb1 hb2
  go_enter Tryz.func11, Tryz.ntmps11
  go_wp2_with fail
  generalize (w.alloc (.cells #[.int .u32 pc, .int .i64 (many : Int), .slice (some ⟨g, 0, none⟩) ops.length cap] 34)).alloc (.cells #[.bool false, .int .i64 0] 52) = W at *
  refine (irCheck_ok HO.out HC.out HMX.out).mono ?_
  rintro e w1 ⟨rfl, hb1⟩
  have HB1 := Lib.hid (HB.out.trans (hb1.mono HB.out.size))
  have HBX1 := Lib.hid (show CodeBox w1 w.heap.size pc many (.slice (some ⟨g, 0, none⟩) ops.length cap) from (hb1.block _ (by have := HSZ.out; omega)).trans HBX.out)
  have HED1 := Lib.hid ((hb1.block _ HSZ.out).trans HED.out)
  have HS1 := Lib.hid (show StB w1 sb s from Row.of_block (w' := w1) HS.out (hb1.block sb HS.out.lt))
  have HO1 := Lib.hid (HO.out.below hb1 HO.out.lt)
  have HSZ1 := Lib.hid (Nat.lt_of_lt_of_le HSZ.out hb1.size)
  clear hb1 HB HBX HED HS HO HSZ HMX
  obtain ⟨b0, b1, b2⟩ := HBX1.out.cells
  have HRY := Lib.hid (irReady_yes HS1.out HRD.out.1 HRD.out.2.1)
  rw [HRD.out.2.2] at HRY
  have HNM := Lib.hid (newMachineP_any (r := r) HS1.out)
  go_wp2_with fail
  refine HRY.out.mono ?_
  rintro e w2 ⟨rfl, rfl⟩
  go_wp2_with fail
  refine HNM.out.mono ?_
  intro e w2 hm2
  obtain ⟨mb, rfl, hmb, hM2, hb2⟩ := hm2
  have HB2 := Lib.hid (HB1.out.trans (hb2.mono HB1.out.size))
  have HBX2 := Lib.hid (show CodeBox w2 w.heap.size pc many (.slice (some ⟨g, 0, none⟩) ops.length cap) from (hb2.block _ (by have := HSZ1.out; omega)).trans HBX1.out)
  have HED2 := Lib.hid ((hb2.block _ HSZ1.out).trans HED1.out)
  have HS2 := Lib.hid (show StB w2 sb s from Row.of_block (w' := w2) HS1.out (hb2.block sb HS1.out.lt))
  have HO2 := Lib.hid (HO1.out.below hb2 HO1.out.lt)
  have HM2 := Lib.hid hM2
  have HMB := Lib.hid (show w.heap.size + 1 < mb by have := HSZ1.out; omega)
  clear hmb hM2 hb2 b0 b1 b2 HB1 HBX1 HED1 HS1 HO1 HRY HNM
  obtain ⟨b0, b1, b2⟩ := HBX2.out.cells
  go_wp2_with fail
  clear b0 b1 b2
  have HOP : Hid (Below w.heap.size w w2) := HB2
  have HEV0 : Hid (EvS w2 r bb mw mh mb (w.heap.size + 2) n (regsP s) (.slice none 0 0) ws wt ht []) := Lib.hid
    { ram := HRAM.out.below HB2.out
      mp := HM2.out
      wait := World.ownsRow_nil _ _ _ _
      good := fun x hx => by cases hx
      regs := HXX.out
      low := by
        have h1 := HRAM.out.lt
        have h2 := HRAM.out.bytes.lt
        have h3 := HRAM.out.watch.lt
        have h4 := HRAM.out.hits.lt
        have h5 := HMB.out
        exact ⟨by omega, by omega, by omega, by omega, by omega⟩ }
  clear HM2
  go_loopw [11, 12, 13, 41] (fun u11 u12 u13 i wr => ∃ (j : Nat) (X : Regs) (wv : Value) (W : List StoW), j < ops.length ∧ i = .int .i64 (j : Int) ∧ Hid (EvS wr r bb mw mh mb (w.heap.size + 2) n X wv ws wt ht W) ∧ Hid (evalZ wt (ops.drop j) X (applyW ws W) = Z) ∧ Hid (W.length = storesO (ops.take j)) ∧ Hid (Below (w.heap.size + 2) w2 wr)) (fun _ _ _ i _ => ops.length - (intOf i).toNat)
  case atStart => exact ⟨0, _, _, _, by have := HC.out.ne; omega, rfl, HEV0, HZ0, Lib.hid rfl, Lib.hid (Below.refl _ _)⟩
  case round =>
    obtain ⟨j, X, wv, W, hlt, rfl, HEV, HZJ, HWL, HBJ⟩ := hrel
    have hjI : (j : Int) < (ops.length : Int) := by omega
    have HOj := Lib.hid (HO2.out.of_block (HBJ.out.block g (by have := HGL.out; omega)))
    have HBXj := Lib.hid (show CodeBox wr w.heap.size pc many (.slice (some ⟨g, 0, none⟩) ops.length cap) from (HBJ.out.block _ (by omega)).trans HBX2.out)
    have HEDj := Lib.hid ((HBJ.out.block (w.heap.size + 1) (by omega)).trans HED2.out)
    have HSj := Lib.hid (show StB wr sb s from Row.of_block (w' := wr) HS2.out (HBJ.out.block sb (by have := HLT.out; omega)))
    have HBW := Lib.hid (HB2.out.trans (HBJ.out.mono (by omega)))
    have HSEj := Lib.hid (HSE.out.below HBW.out)
    obtain ⟨c0, c1, c2, c3, c4, c5⟩ := HOj.out.cells j hlt
    have HGD := Lib.hid (HC.out.good (ops[j]'hlt) (List.getElem_mem hlt))
    have HJ := Lib.hid hlt
    have HDR := Lib.hid (List.drop_eq_getElem_cons hlt)
    have HLE := Lib.hid (fun wx => irLeaves_any (ops[j]'hlt).kind wx)
    have HSN := Lib.hid (stores_next ops hlt)
    have HL8 : Hid (W.length ≤ 8) := Lib.hid (by rw [HWL.out]; exact Nat.le_trans (stores_take ops j) HC.out.st)
    have HOUT := Lib.hid (HC.out.out j hlt)
    generalize ops[j]'hlt = o at *
    clear hlt
    obtain ⟨k, d, a, b, im, m⟩ := o
    simp only at c0 c1 c2 c3 c4 c5 HLE HGD HSN HOUT
    rw [lit_text] at c0 HLE
    rw [leavesK_O] at HLE
    have hAX := (Below.refl wr.heap.size wr).alloc (Nat.le_refl _) (.cells #[.string k.lit, .int .i64 (d : Int), .int .i64 (a : Int), .int .i64 b, .int .u32 im, .int .i64 (m : Int)] 61)
    have hbx := heap_alloc_new wr (.cells #[.string k.lit, .int .i64 (d : Int), .int .i64 (a : Int), .int .i64 b, .int .u32 im, .int .i64 (m : Int)] 61)
    have HAX := Lib.hid hAX
    have HBX9 := Lib.hid hbx
    clear hAX hbx
    generalize hkl : k.lit = kl at *
    have HKL := Lib.hid hkl
    clear hkl
    cases hlv : leavesO k with
    | false =>
      rw [hlv] at HLE
      have HLV := Lib.hid hlv
      clear hlv
      have HDO := Lib.hid (doP_any (HEV.out.below HAX.out) HL8.out k HGD.out.2.1 HGD.out.2.2 HLV.out (HSEj.out.below HAX.out) (regO_word _ HEV.out.regs HGD.out.2.2))
      rw [HKL.out] at HDO
      go_wp2_with fail
      refine (HLE.out _).mono ?_
      rintro e w3 ⟨rfl, rfl⟩
      go_wp2_with fail
      generalize wr.alloc _ = X9 at *
      refine HDO.out.mono ?_
      rintro e w4 ⟨rfl, hk4, hev4⟩
      have HB4 : Hid (Below (w.heap.size + 2) w2 w4) := Lib.hid ((HBJ.out.trans (HAX.out.mono (by have := HBJ.out.size; have := HEV0.out.B_le; omega))).trans (hk4.to_below (by have := HAX.out.size; have := HEV.out.B_le; omega) (fun k hkB e => by
        rcases e with e | e
        · have := HEV.out.low; omega
        · have := HEV.out.own_ge e; omega)))
      have HBX4 := Lib.hid (((hk4.same _ (by have := HAX.out.size; exact (Array.getElem?_eq_some_iff.1 HBX9.out).1) (fun e => by
        rcases e with e | e
        · have := HEV.out.mp.lt; omega
        · have := (World.ownsRow.lt HEV.out.wait _ e).2; omega)).trans HBX9.out))
      have HED4 := Lib.hid ((HB4.out.block (w.heap.size + 1) (by omega)).trans HED2.out)
      have HBW4 := Lib.hid (HB2.out.trans (HB4.out.mono (by omega)))
      have hk5 := hk4
      clear hk4 hk5 c0 c1 c2 c3 c4 c5 HDO HBX9 HEDj HAX HSEj
      cases htr : trapO wt ⟨k, d, a, b, im, m⟩ X with
      | true =>
        have HT : Hid (Z = .trap m) := Lib.hid (by
          rw [← HZJ.out, HDR.out]
          exact eval_trap HGD.out.2.1 htr)
        clear htr hev4
        obtain ⟨q0, q1, q2, q3, q4, q5⟩ := six_cells HBX4.out
        obtain ⟨r0, r1⟩ := two_cells HED4.out
        obtain ⟨f0, f1⟩ := two_free HED4.out
        go_wp2_with fail
        have h9 := Joins.block_setCell (i := 1) (Joins.block_setCell (i := 0) HED4.out (.bool true)) (.int .i64 (m : Int))
        obtain ⟨y0, y1⟩ := two_cells (w := (w4.setCell ⟨w.heap.size + 1, 0, none⟩ (.bool true)).setCell ⟨w.heap.size + 1, 1, none⟩ (.int .i64 (m : Int))) (a0 := .bool true) (a1 := .int .i64 (m : Int)) h9
        have HBE := Lib.hid ((HBW4.out.setCell (p := ⟨w.heap.size + 1, 0, none⟩) (Nat.le_succ _) (.bool true)).setCell (p := ⟨w.heap.size + 1, 1, none⟩) (Nat.le_succ _) (.int .i64 (m : Int)))
        generalize (w4.setCell ⟨w.heap.size + 1, 0, none⟩ (.bool true)).setCell ⟨w.heap.size + 1, 1, none⟩ (.int .i64 (m : Int)) = W9 at *
        exact bodyPost_ret (v := .tuple #[.agg #[.bool true, .int .i64 (m : Int)], .nilIface]) (by simp [results, Tryz.results11, go_sem, y0, y1]) rfl (by rw [HT.out]; exact ⟨rfl, HBE.out⟩)
      | false =>
        obtain ⟨wv', hev5⟩ := hev4 htr
        have hgo : goesO ⟨k, d, a, b, im, m⟩ X = none := by
          have := HLV.out
          cases k <;> first | rfl | (exact absurd (show true = false from this) (by decide))
        have HZ5 : Hid (evalZ wt (ops.drop (j + 1)) (regO ⟨k, d, a, b, im, m⟩ (valO ⟨k, d, a, b, im, m⟩ X (applyW ws W)) X) (applyW ws (waitsO ⟨k, d, a, b, im, m⟩ X W)) = Z) := Lib.hid (by
          rw [← eval_next HGD.out.2.1 htr hgo, ← HDR.out]
          exact HZJ.out)
        have HW5 : Hid ((waitsO ⟨k, d, a, b, im, m⟩ X W).length = storesO (ops.take (j + 1))) := Lib.hid (by rw [waits_len, HSN.out, HWL.out])
        have HN5 : Hid (j + 1 < ops.length) := Lib.hid (by
          have h1 := HOUT.out
          have h2 : outK k = false := by
            have := HLV.out
            cases k <;> first | rfl | (exact absurd (show true = false from this) (by decide))
          rw [h2] at h1
          have h3 : ¬ j + 1 = ops.length := of_decide_eq_false h1.symm
          have := HJ.out
          omega)
        have HEV5 := Lib.hid hev5
        clear hev5 hev4 htr hgo
        go_wp2_with fail
        go_roundw
        case rel => exact ⟨j + 1, _, wv', _, HN5.out, by go_num, HEV5, HZ5, HW5, HB4⟩
        case measure => have := HN5.out; go_light; simp [intOf]; omega
    | true =>
      rw [hlv] at HLE
      have HLV := Lib.hid hlv
      clear hlv
      have ha64 : a < 64 := by
        have h1 := HGD.out.2.1
        have h2 := HLV.out
        cases k <;> first | exact h1.2.1 | (exact absurd (show false = true from h2) (by decide)) | (have : a = 0 := h1.2.1; omega)
      have iA : (a : Int) < 64 := by omega
      have HWH := Lib.hid (fun wx => irWhere_any (d := d) (a := a) (n := m) (b := b) (im := im) k (X a) wx)
      rw [HKL.out] at HWH
      have HMX9 := Lib.hid ((HEV.out.below HAX.out).mp.reg ha64)
      go_wp2_with fail
      refine (HLE.out _).mono ?_
      rintro e w3 ⟨rfl, rfl⟩
      go_wp2_with fail
      generalize wr.alloc _ = X9 at *
      clear c0 c1 c2 c3 c4 c5
      obtain ⟨c0, c1, c2, c3, c4, c5⟩ := six_cells HBX9.out
      have hr := HMX9.out
      have HKS := Lib.hid (fun (w' : World) (hb : Below X9.heap.size X9 w') => (⟨(hb.cell (World.block_lt_of_cell? _ _ c0)).trans c0, (hb.cell (World.block_lt_of_cell? _ _ c1)).trans c1, (hb.cell (World.block_lt_of_cell? _ _ c2)).trans c2, (hb.cell (World.block_lt_of_cell? _ _ c3)).trans c3, (hb.cell (World.block_lt_of_cell? _ _ c4)).trans c4, (hb.cell (World.block_lt_of_cell? _ _ c5)).trans c5, (hb.cell (World.block_lt_of_cell? _ _ hr)).trans hr, hb⟩ : w'.cell? ⟨wr.heap.size, 0, none⟩ = some (.string kl) ∧ w'.cell? ⟨wr.heap.size, 1, none⟩ = some (.int .i64 (d : Int)) ∧ w'.cell? ⟨wr.heap.size, 2, none⟩ = some (.int .i64 (a : Int)) ∧ w'.cell? ⟨wr.heap.size, 3, none⟩ = some (.int .i64 b) ∧ w'.cell? ⟨wr.heap.size, 4, none⟩ = some (.int .u32 im) ∧ w'.cell? ⟨wr.heap.size, 5, none⟩ = some (.int .i64 (m : Int)) ∧ w'.cell? ⟨mb, a, none⟩ = some (.int .u32 (X a)) ∧ Below X9.heap.size X9 w'))
      go_region_held3 (fun w' => w'.cell? ⟨wr.heap.size, 0, none⟩ = some (.string kl) ∧ w'.cell? ⟨wr.heap.size, 1, none⟩ = some (.int .i64 (d : Int)) ∧ w'.cell? ⟨wr.heap.size, 2, none⟩ = some (.int .i64 (a : Int)) ∧ w'.cell? ⟨wr.heap.size, 3, none⟩ = some (.int .i64 b) ∧ w'.cell? ⟨wr.heap.size, 4, none⟩ = some (.int .u32 im) ∧ w'.cell? ⟨wr.heap.size, 5, none⟩ = some (.int .i64 (m : Int)) ∧ w'.cell? ⟨mb, a, none⟩ = some (.int .u32 (X a)) ∧ Below X9.heap.size X9 w')
        (first | assumption | exact HKS.out _ (Below.refl _ _).drew | exact HKS.out _ ((Below.refl X9.heap.size X9).drew.trans hbw))
        ((go_at_call 31; refine (HWH.out _).mono ?_; rintro e w4 ⟨rfl, hbw⟩))
      have HBQ := Lib.hid (HAX.out.trans (((Below.refl X9.heap.size X9).drew.trans hbw).mono HAX.out.size))
      have HEV4 := Lib.hid (HEV.out.below HBQ.out)
      have HB4 : Hid (Below (w.heap.size + 2) w2 w4) := Lib.hid (HBJ.out.trans (HBQ.out.mono (by have := HBJ.out.size; have := HEV.out.B_le; omega)))
      have HTR : Hid (trapO wt ⟨k, d, a, b, im, m⟩ X = false) := Lib.hid (by
        have := HLV.out
        cases k <;> first | rfl | (exact absurd (show false = true from this) (by decide)))
      have HGW := Lib.hid (goes_where ⟨k, d, a, b, im, m⟩ X HLV.out)
      clear hbw HKS hr HMX9 HBX9 HSEj c0 c1 c2 c3 c4 c5
      go_split_ands
      cases hwb : whereB k (X a) with
      | true =>
        have hgo : goesO ⟨k, d, a, b, im, m⟩ X = some (whereV k im (X a)) := by rw [HGW.out]; simp [hwb]
        have HT : Hid (Z = .leave (whereV k im (X a)) X (applyW ws W)) := Lib.hid (by
          rw [← HZJ.out, HDR.out]
          exact eval_leave HGD.out.2.1 HTR.out hgo)
        have HSQ := Lib.hid (show StB w4 sb s from Row.of_block (w' := w4) HSj.out (HBQ.out.block sb HSj.out.lt))
        have HLP := Lib.hid (leaveP_all (pc := whereV k im (X a)) HEV4.out HL8.out HSQ.out (by have := HLT.out; omega) HSEP.out.1 HSEP.out.2.1 HSEP.out.2.2 HCT.out.1 HCT.out.2 HC.out.m1)
        have HED4 := Lib.hid ((HB4.out.block (w.heap.size + 1) (by omega)).trans HED2.out)
        have HBX4 := Lib.hid (show CodeBox w4 w.heap.size pc many (.slice (some ⟨g, 0, none⟩) ops.length cap) from (HB4.out.block _ (by omega)).trans HBX2.out)
        have HBW4 := Lib.hid (HB2.out.trans (HB4.out.mono (by omega)))
        clear hgo
        obtain ⟨b0, b1, b2⟩ := HBX4.out.cells
        go_wp2_with fail
        refine HLP.out.mono ?_
        rintro e w5 ⟨rfl, hs5, hr5, hk5⟩
        have hl1 := HRAM.out.bytes.lt
        have hl2 := HRAM.out.hits.lt
        have hl3 := HRAM.out.lt
        have hl4 := HRAM.out.watch.lt
        have hl5 := HLT.out
        have HED5 := Lib.hid ((hk5.same _ (Array.getElem?_eq_some_iff.1 HED4.out).1 (by omega)).trans HED4.out)
        have KST := (Kept.set w5 (w.heap.size + 1) 0 (.bool false)).trans (Kept.set (w5.setCell ⟨w.heap.size + 1, 0, none⟩ (.bool false)) (w.heap.size + 1) 1 (.int .i64 0))
        have HFS := Lib.hid (hs5.kept KST (by omega))
        have HFR := Lib.hid (hr5.kept KST (by omega) (by omega) (by omega) (by omega))
        have HFK : Hid (Kept (fun k => k = sb ∨ k = bb ∨ k = mh) w ((w5.setCell ⟨w.heap.size + 1, 0, none⟩ (.bool false)).setCell ⟨w.heap.size + 1, 1, none⟩ (.int .i64 0))) := Lib.hid (by
          have kk := (((Kept.of_below (S := fun k => k = sb ∨ k = bb ∨ k = mh) HBW4.out).trans hk5).mono (T := fun k => (k = sb ∨ k = bb ∨ k = mh) ∨ k = w.heap.size + 1) (fun _ x => Or.inl x)).trans (KST.mono (fun _ x => Or.inr x))
          exact ⟨kk.below, fun i hi hs => kk.same i hi (fun x => x.elim hs (fun e => by omega))⟩)
        have h9 := Joins.block_setCell (i := 1) (Joins.block_setCell (i := 0) HED5.out (.bool false)) (.int .i64 0)
        obtain ⟨y0, y1⟩ := two_cells (w := (w5.setCell ⟨w.heap.size + 1, 0, none⟩ (.bool false)).setCell ⟨w.heap.size + 1, 1, none⟩ (.int .i64 0)) (a0 := .bool false) (a1 := .int .i64 0) h9
        obtain ⟨r0, r1⟩ := two_cells HED5.out
        obtain ⟨f0, f1⟩ := two_free HED5.out
        clear hl1 hl2 hl3 hl4 hl5 KST h9 hs5 hr5 hk5 b0 b1 b2
        go_wp2_with fail
        exact bodyPost_ret (v := .tuple #[.agg #[.bool false, .int .i64 0], .nilIface]) (by simp [results, Tryz.results11, go_sem, y0, y1]) rfl (by rw [HT.out]; exact ⟨rfl, HFS.out, ⟨_, HFR.out⟩, HFK.out⟩)
      | false =>
        have hgo : goesO ⟨k, d, a, b, im, m⟩ X = none := by rw [HGW.out]; simp [hwb]
        have HW0 : Hid (waitsO ⟨k, d, a, b, im, m⟩ X W = W) := Lib.hid (by
          have := HLV.out
          cases k <;> first | rfl | (exact absurd (show false = true from this) (by decide)))
        have HR0 : Hid (regO ⟨k, d, a, b, im, m⟩ (valO ⟨k, d, a, b, im, m⟩ X (applyW ws W)) X = X) := Lib.hid (regO_no (by
          have := HLV.out
          cases k <;> first | rfl | (exact absurd (show false = true from this) (by decide))))
        have HZ5 : Hid (evalZ wt (ops.drop (j + 1)) X (applyW ws W) = Z) := Lib.hid (by
          have h1 := eval_next (ws := ws) (W := W) (os := ops.drop (j + 1)) HGD.out.2.1 HTR.out hgo
          rw [HW0.out, HR0.out] at h1
          rw [← h1, ← HDR.out]
          exact HZJ.out)
        have HW5 : Hid (W.length = storesO (ops.take (j + 1))) := Lib.hid (by
          have h1 : storeK k = false := by
            have := HLV.out
            cases k <;> first | rfl | (exact absurd (show false = true from this) (by decide))
          rw [HSN.out, HWL.out, h1]
          simp)
        have HN5 : Hid (j + 1 < ops.length) := Lib.hid (by
          have h1 := HOUT.out
          have h2 : outK k = false := by
            have := HLV.out
            cases k <;> first | rfl | (exact absurd (show false = true from this) (by decide)) | (exact absurd (show true = false from hwb) (by decide))
          rw [h2] at h1
          have h3 : ¬ j + 1 = ops.length := of_decide_eq_false h1.symm
          have := HJ.out
          omega)
        clear hgo
        go_wp2_with fail
        go_roundw
        case rel => exact ⟨j + 1, X, wv, W, HN5.out, by go_num, HEV4, HZ5, HW5, HB4⟩
        case measure => have := HN5.out; go_light; simp [intOf]; omega
end Go.Proofs.YtlnefmgiiogcmaaGreatDoor
namespace Go.Proofs.YtlnefmgiiogcmaaGreatDoor
open Go.RowKit
set_option maxHeartbeats 8000000 in
set_option maxRecDepth 100000 in
theorem hread_load {X : Regs} {w : World} {mb d a n : Nat} {b im v : Int} {q : Bool} {rv wv : Value} (h : MpB w mb X rv wv) (hd : d < 64) (ha : a < 64)
    (hL : ∀ wx, Below w.heap.size w wx → Calls Tryz.prog 58 #[.pointer (some ⟨mb, 0, none⟩), .int .u32 ((X a + im) % 4294967296), .int .i64 b] wx fun e w' => e = .returned (.tuple #[.int .u32 v, .bool q]) ∧ Below wx.heap.size wx w') :
    Calls Tryz.prog 63 #[.pointer (some ⟨mb, 0, none⟩), .agg #[.string ⟨#[108, 111, 97, 100]⟩, .int .i64 (d : Int), .int .i64 (a : Int), .int .i64 b, .int .u32 im, .int .i64 (n : Int)]] w fun e w' => HReadP w .load d a b im n v 0 q e w' := by
  have HN := Lib.hid (And.intro hd ha)
  have HLT := Lib.hid h.lt
  have HL := Lib.hid hL
  have iD : (d : Int) < 64 := by omega
  have iA : (a : Int) < 64 := by omega
  unfold HReadP
  have hkl : OpK.load.lit = ⟨#[108, 111, 97, 100]⟩ := rfl
  rw [hkl]
  have hb1 := (Below.refl w.heap.size w).alloc (Nat.le_refl _) (.cells #[.string ⟨#[108, 111, 97, 100]⟩, .int .i64 (d : Int), .int .i64 (a : Int), .int .i64 b, .int .u32 im, .int .i64 (n : Int)] 61)
  have hb2 := hb1.alloc hb1.size (.cells #[.string ⟨#[]⟩, .int .i64 0, .int .i64 0, .int .i64 0, .int .u32 0, .int .i64 0, .int .u32 0, .int .u32 0] 134)
  have HBX : Hid (((w.alloc (.cells #[.string ⟨#[108, 111, 97, 100]⟩, .int .i64 (d : Int), .int .i64 (a : Int), .int .i64 b, .int .u32 im, .int .i64 (n : Int)] 61)).alloc (.cells #[.string ⟨#[]⟩, .int .i64 0, .int .i64 0, .int .i64 0, .int .u32 0, .int .i64 0, .int .u32 0, .int .u32 0] 134)).heap[w.heap.size]? = some (.cells #[.string ⟨#[108, 111, 97, 100]⟩, .int .i64 (d : Int), .int .i64 (a : Int), .int .i64 b, .int .u32 im, .int .i64 (n : Int)] 61 (0, 0))) := Lib.hid ((Below.heap_alloc _ _ _ (by simp)).trans (heap_alloc_new w _))
  have HRX : Hid (((w.alloc (.cells #[.string ⟨#[108, 111, 97, 100]⟩, .int .i64 (d : Int), .int .i64 (a : Int), .int .i64 b, .int .u32 im, .int .i64 (n : Int)] 61)).alloc (.cells #[.string ⟨#[]⟩, .int .i64 0, .int .i64 0, .int .i64 0, .int .u32 0, .int .i64 0, .int .u32 0, .int .u32 0] 134)).heap[w.heap.size + 1]? = some (.cells #[.string ⟨#[]⟩, .int .i64 0, .int .i64 0, .int .i64 0, .int .u32 0, .int .i64 0, .int .u32 0, .int .u32 0] 134 (0, 0))) := Lib.hid (by
    have := heap_alloc_new (w.alloc (.cells #[.string ⟨#[108, 111, 97, 100]⟩, .int .i64 (d : Int), .int .i64 (a : Int), .int .i64 b, .int .u32 im, .int .i64 (n : Int)] 61)) (.cells #[.string ⟨#[]⟩, .int .i64 0, .int .i64 0, .int .i64 0, .int .u32 0, .int .i64 0, .int .u32 0, .int .u32 0] 134)
    rw [World.size_alloc] at this
    exact this)
  have HM0 : Hid (MpB _ mb X rv wv) := Lib.hid (h.of_block (hb2.block mb h.lt))
  have HB0 := Lib.hid hb2
  clear h hb1 hb2 hkl hd ha hL
  go_enter Tryz.func63, Tryz.ntmps63
  go_wp2_with fail
  generalize (w.alloc (.cells #[.string ⟨#[108, 111, 97, 100]⟩, .int .i64 (d : Int), .int .i64 (a : Int), .int .i64 b, .int .u32 im, .int .i64 (n : Int)] 61)).alloc (.cells #[.string ⟨#[]⟩, .int .i64 0, .int .i64 0, .int .i64 0, .int .u32 0, .int .i64 0, .int .u32 0, .int .u32 0] 134) = W at *
  obtain ⟨c0, c1, c2, c3, c4, c5⟩ := six_cells HBX.out
  have hx := HM0.out.reg HN.out.2
  go_still (by kernel_rfl)
  change Exit.then _ _ Exit.normal _ W.drew
  have HBX2 : Hid (W.drew.heap[w.heap.size]? = _) := HBX
  have HRX2 : Hid (W.drew.heap[w.heap.size + 1]? = _) := HRX
  have HM2 := Lib.hid (show MpB W.drew mb X rv wv from HM0.out.of_block rfl)
  have HB2 := Lib.hid (HB0.out.trans ((Below.refl W.heap.size W).drew.mono HB0.out.size))
  clear c0 c1 c2 c3 c4 c5 hx HBX HRX HM0 HB0
  generalize W.drew = W2 at *
  obtain ⟨c0, c1, c2, c3, c4, c5⟩ := six_cells HBX2.out
  go_upto_region 5 with fail
  have hax := (Below.refl W2.heap.size W2).alloc (Nat.le_refl _) (.cells #[.string ⟨#[108, 111, 97, 100]⟩, .int .i64 (d : Int), .int .i64 (a : Int), .int .i64 b, .int .u32 im, .int .i64 (n : Int), .int .u32 0, .int .u32 0] 134)
  have HOX : Hid ((W2.alloc (.cells #[.string ⟨#[108, 111, 97, 100]⟩, .int .i64 (d : Int), .int .i64 (a : Int), .int .i64 b, .int .u32 im, .int .i64 (n : Int), .int .u32 0, .int .u32 0] 134)).heap[W2.heap.size]? = some (.cells #[.string ⟨#[108, 111, 97, 100]⟩, .int .i64 (d : Int), .int .i64 (a : Int), .int .i64 b, .int .u32 im, .int .i64 (n : Int), .int .u32 0, .int .u32 0] 134 (0, 0))) := Lib.hid (heap_alloc_new W2 _)
  have HBX3 := Lib.hid ((hax.block _ (Array.getElem?_eq_some_iff.1 HBX2.out).1).trans HBX2.out)
  have HRX3 := Lib.hid ((hax.block _ (Array.getElem?_eq_some_iff.1 HRX2.out).1).trans HRX2.out)
  have HB3 := Lib.hid (HB2.out.trans (hax.mono HB2.out.size))
  have HNE : Hid (w.heap.size + 1 < W2.heap.size ∧ mb < w.heap.size) := Lib.hid ⟨(Array.getElem?_eq_some_iff.1 HRX2.out).1, HLT.out⟩
  clear hax HBX2 HRX2 HM2 HB2 c0 c1 c2 c3 c4 c5
  generalize W2.alloc (.cells #[.string ⟨#[108, 111, 97, 100]⟩, .int .i64 (d : Int), .int .i64 (a : Int), .int .i64 b, .int .u32 im, .int .i64 (n : Int), .int .u32 0, .int .u32 0] 134) = W3 at *
  generalize W2.heap.size = ob at *
  obtain ⟨c0, c1, c2, c3, c4, c5⟩ := six_cells HBX3.out
  obtain ⟨⟨o0, o1, o2, o3, o4, o5, o6, o7⟩, of⟩ := eight_cells HOX.out
  go_wp2_with fail
  refine (HL.out W3 HB3.out).mono ?_
  rintro e w5 ⟨rfl, hb5⟩
  have HOX5 := Lib.hid ((hb5.block _ (Array.getElem?_eq_some_iff.1 HOX.out).1).trans HOX.out)
  have HRX5 := Lib.hid ((hb5.block _ (Array.getElem?_eq_some_iff.1 HRX3.out).1).trans HRX3.out)
  have HB5 := Lib.hid (HB3.out.trans (hb5.mono HB3.out.size))
  clear c0 c1 c2 c3 c4 c5 o0 o1 o2 o3 o4 o5 o6 o7 of HBX3 HRX3 HB3 HOX hb5
  obtain ⟨⟨o0, o1, o2, o3, o4, o5, o6, o7⟩, of⟩ := eight_cells HOX5.out
  go_upto_region 17 with fail
  have HOX4 : Hid ((w5.setCell ⟨ob, 6, none⟩ (.int .u32 (v))).heap[ob]? = some (.cells #[.string ⟨#[108, 111, 97, 100]⟩, .int .i64 (d : Int), .int .i64 (a : Int), .int .i64 b, .int .u32 im, .int .i64 (n : Int), .int .u32 (v), .int .u32 0] 134 (0, 0))) := Lib.hid (Joins.block_setCell (i := 6) HOX5.out (.int .u32 (v)))
  have HRX4 := Lib.hid ((setCell_other w5 ob 6 (w.heap.size + 1) (.int .u32 (v)) (by have := HNE.out; omega)).trans HRX5.out)
  have HB4 := Lib.hid (HB5.out.setCell (p := ⟨ob, 6, none⟩) (show w.heap.size ≤ ob by have := HNE.out; omega) (.int .u32 (v)))
  clear o0 o1 o2 o3 o4 o5 o6 o7 of HOX5 HRX5 HB5
  generalize w5.setCell ⟨ob, 6, none⟩ (.int .u32 (v)) = W4 at *
  obtain ⟨⟨o0, o1, o2, o3, o4, o5, o6, o7⟩, of⟩ := eight_cells HOX4.out
  obtain ⟨⟨r0, r1, r2, r3, r4, r5, r6, r7⟩, rf⟩ := eight_cells HRX4.out
  go_wp2_with fail
  have h9 := put8 HRX4.out (.string ⟨#[108, 111, 97, 100]⟩) (.int .i64 (d : Int)) (.int .i64 (a : Int)) (.int .i64 b) (.int .u32 im) (.int .i64 (n : Int)) (.int .u32 (v)) (.int .u32 (0))
  have HB9 : Hid (Below w.heap.size w (((((((((W4.setCell ⟨w.heap.size + 1, 0, none⟩ (.string ⟨#[108, 111, 97, 100]⟩)).setCell ⟨w.heap.size + 1, 1, none⟩ (.int .i64 (d : Int))).setCell ⟨w.heap.size + 1, 2, none⟩ (.int .i64 (a : Int))).setCell ⟨w.heap.size + 1, 3, none⟩ (.int .i64 b)).setCell ⟨w.heap.size + 1, 4, none⟩ (.int .u32 im)).setCell ⟨w.heap.size + 1, 5, none⟩ (.int .i64 (n : Int))).setCell ⟨w.heap.size + 1, 6, none⟩ (.int .u32 (v))).setCell ⟨w.heap.size + 1, 7, none⟩ (.int .u32 (0))))) := Lib.hid (put8_below HB4.out (by omega) (.string ⟨#[108, 111, 97, 100]⟩) (.int .i64 (d : Int)) (.int .i64 (a : Int)) (.int .i64 b) (.int .u32 im) (.int .i64 (n : Int)) (.int .u32 (v)) (.int .u32 (0)))
  clear r0 r1 r2 r3 r4 r5 r6 r7 rf HRX4
  generalize ((((((((W4.setCell ⟨w.heap.size + 1, 0, none⟩ (.string ⟨#[108, 111, 97, 100]⟩)).setCell ⟨w.heap.size + 1, 1, none⟩ (.int .i64 (d : Int))).setCell ⟨w.heap.size + 1, 2, none⟩ (.int .i64 (a : Int))).setCell ⟨w.heap.size + 1, 3, none⟩ (.int .i64 b)).setCell ⟨w.heap.size + 1, 4, none⟩ (.int .u32 im)).setCell ⟨w.heap.size + 1, 5, none⟩ (.int .i64 (n : Int))).setCell ⟨w.heap.size + 1, 6, none⟩ (.int .u32 (v))).setCell ⟨w.heap.size + 1, 7, none⟩ (.int .u32 (0))) = W9 at *
  obtain ⟨⟨y0, y1, y2, y3, y4, y5, y6, y7⟩, _⟩ := eight_cells (w := W9) h9
  clear h9
  exact bodyPost_ret (v := .tuple #[.agg #[.string ⟨#[108, 111, 97, 100]⟩, .int .i64 (d : Int), .int .i64 (a : Int), .int .i64 b, .int .u32 im, .int .i64 (n : Int), .int .u32 (v), .int .u32 (0)], .bool q]) (by simp [results, Tryz.results63, go_sem, y0, y1, y2, y3, y4, y5, y6, y7]) rfl (⟨rfl, HB9.out⟩)
theorem mayP_any {w wx : World} {r bb mw mh mb B n d a m : Nat} {b im : Int} {X : Regs} {wv : Value} {ws : List Int} {wt ht : Nat → Bool} {W : List StoW} {ad : Nat → Addr} (h : EvS w r bb mw mh mb B n X wv ws wt ht W) (hg : opG ⟨.store, d, a, b, im, m⟩) (hS : Sents w ad) (hb : Below w.heap.size w wx) :
    Calls Tryz.prog 59 #[.pointer (some ⟨mb, 0, none⟩), .int .u32 ((X a + im) % 4294967296), .int .i64 (d : Int)] wx fun e w' => e = .returned (.bool (!trapO wt ⟨.store, d, a, b, im, m⟩ X)) ∧ wx = w' := by
  obtain ⟨g1, g2, g3, g4⟩ := hg
  simp only at g1 g2 g3 g4
  obtain ⟨A, hA⟩ : ∃ A : Nat, (X a + im) % 4294967296 = (A : Int) := ⟨((X a + im) % 4294967296).toNat, by omega⟩
  rw [hA]
  cases hr : reach ((A : Nat) : Int) d with
  | false =>
    refine (mayP_no (h.ram.below hb) (h.mp.of_block (hb.block mb h.mp.lt)) (A : Int) (by unfold Reg32; omega) d g1 hr (hS.below hb)).mono ?_
    rintro e w' ⟨rfl, hw⟩
    exact ⟨by simp [trapO, hA, hr], hw⟩
  | true =>
    refine (mayP_yes (h.ram.below hb) (h.mp.of_block (hb.block mb h.mp.lt)) A d g1 hr).mono ?_
    rintro e w' ⟨rfl, hw⟩
    exact ⟨by simp [trapO, hA, hr], hw⟩
def HResP (w : World) (k : OpK) (d a : Nat) (b im : Int) (n : Nat) (X : Regs) (us : List Int) (wt : Nat → Bool) (e : Ending) (w' : World) : Prop := ∃ v z, HReadP w k d a b im n v z (!trapO wt ⟨k, d, a, b, im, n⟩ X) e w' ∧ (trapO wt ⟨k, d, a, b, im, n⟩ X = false → v = resV ⟨k, d, a, b, im, n⟩ X us ∧ z = resB ⟨k, d, a, b, im, n⟩ X)
theorem hread_any {w : World} {r bb mw mh mb B n : Nat} {X : Regs} {wv : Value} {ws : List Int} {wt ht : Nat → Bool} {W : List StoW} {ad : Nat → Addr} (h : EvS w r bb mw mh mb B n X wv ws wt ht W) (hl : W.length ≤ 8) (k : OpK) {d a m : Nat} {b im : Int} (hg : opG ⟨k, d, a, b, im, m⟩) (hS : Sents w ad) :
    Calls Tryz.prog 63 #[.pointer (some ⟨mb, 0, none⟩), .agg #[.string k.lit, .int .i64 (d : Int), .int .i64 (a : Int), .int .i64 b, .int .u32 im, .int .i64 (m : Int)]] w fun e w' => HResP w k d a b im m X (applyW ws W) wt e w' := by
  by_cases hk : k = .load
  · subst hk
    obtain ⟨g1, g2, g3, g4⟩ := hg
    simp only at g1 g2 g3 g4
    obtain ⟨A, hA⟩ : ∃ A : Nat, (X a + im) % 4294967296 = (A : Int) := ⟨((X a + im) % 4294967296).toNat, by omega⟩
    have hk : b.natAbs = 1 ∨ b.natAbs = 2 ∨ b.natAbs = 4 := by omega
    have hb : b = (b.natAbs : Int) ∨ b = -(b.natAbs : Int) := by omega
    have mx : max b (-b) = (b.natAbs : Int) := by omega
    cases hr : reach ((A : Nat) : Int) b.natAbs with
    | true =>
      have hL : ∀ wx, Below w.heap.size w wx → Calls Tryz.prog 58 #[.pointer (some ⟨mb, 0, none⟩), .int .u32 ((X a + im) % 4294967296), .int .i64 b] wx fun e w' => e = .returned (.tuple #[.int .u32 (wideZ (loadN (applyW ws W) A b.natAbs) b.natAbs (decide (b < 0))), .bool true]) ∧ Below wx.heap.size wx w' := by
        intro wx hbw
        have hm' : MpB wx mb X (.pointer (some ⟨r, 0, none⟩)) wv := h.mp.of_block (hbw.block mb h.mp.lt)
        rw [hA]
        rcases Joins.ownsRow_forms h.wait with ⟨hn, hz⟩ | ⟨g, cap, hn⟩
        · have hW0 : W = [] := List.length_eq_zero_iff.1 hz
          subst hn hW0
          refine (loadP_nil (h.ram.below hbw) hm' A b.natAbs hk hr b hb mx).mono ?_
          rintro e w' ⟨rfl, rfl⟩
          exact ⟨rfl, Below.refl _ _⟩
        · have hw2 : WaitO wx B wv W := h.wait.kept (S := fun _ => False) (.of_below hbw) (fun _ _ x => x)
          subst hn
          exact loadP_yes (h.ram.below hbw) hm' hw2.at (fun s hs => (h.good s hs).ok) hl A b.natAbs hk hr b hb mx
      refine (hread_load h.mp g2 g3 hL).mono ?_
      intro e w' hp
      have ht : trapO wt ⟨.load, d, a, b, im, m⟩ X = false := by simp [trapO, hA, hr]
      refine ⟨_, _, by rw [ht]; exact hp, fun _ => ⟨?_, rfl⟩⟩
      simp only [resV, valO, hA, Int.toNat_natCast]
    | false =>
      have hL : ∀ wx, Below w.heap.size w wx → Calls Tryz.prog 58 #[.pointer (some ⟨mb, 0, none⟩), .int .u32 ((X a + im) % 4294967296), .int .i64 b] wx fun e w' => e = .returned (.tuple #[.int .u32 0, .bool false]) ∧ Below wx.heap.size wx w' := by
        intro wx hbw
        have hm' : MpB wx mb X (.pointer (some ⟨r, 0, none⟩)) wv := h.mp.of_block (hbw.block mb h.mp.lt)
        refine (loadP_no (h.ram.below hbw) hm' ((X a + im) % 4294967296) (by unfold Reg32; omega) b.natAbs hk (by rw [hA]; exact hr) b hb mx (hS.below hbw)).mono ?_
        rintro e w' ⟨rfl, rfl⟩
        exact ⟨rfl, Below.refl _ _⟩
      refine (hread_load h.mp g2 g3 hL).mono ?_
      intro e w' hp
      have ht : trapO wt ⟨.load, d, a, b, im, m⟩ X = true := by simp [trapO, hA, hr]
      exact ⟨_, _, by rw [ht]; exact hp, fun h0 => by rw [ht] at h0; cases h0⟩
  · have hs := opG_small hg
    simp only at hs
    have hb : 0 ≤ b ∧ b < 64 := by
      rcases hs.2.2 with h1 | ⟨_, h1⟩ | ⟨_, h1⟩
      · exact h1
      · exact absurd h1 hk
      · exact absurd h1 hk
    refine (hread_at h.regs (applyW ws W) wt k hk h.mp hs.1 hs.2.1 hb.1 hb.2 ?_).mono (fun e w' hp => ⟨_, _, hp, fun _ => ⟨rfl, rfl⟩⟩)
    intro e wx hbx
    subst e
    exact mayP_any h hg hS hbx
end Go.Proofs.YtlnefmgiiogcmaaGreatDoor
namespace Go.Proofs.YtlnefmgiiogcmaaGreatDoor
open Go.RowKit
def resC (X : Regs) (us : List Int) (o : OpN) : List Value := [.string (bsl o.kind.text), .int .i64 (o.d : Int), .int .i64 (o.a : Int), .int .i64 o.b, .int .u32 o.imm, .int .i64 (o.at' : Int), .int .u32 (resV o X us), .int .u32 (resB o X)]
theorem resC_one (X : Regs) (us : List Int) (o : OpN) : ∀ u ∈ resC X us o, u.oneCell' = true := by
  intro u hu
  simp only [resC, List.mem_cons, List.not_mem_nil, or_false] at hu
  rcases hu with rfl | rfl | rfl | rfl | rfl | rfl | rfl | rfl <;> rfl
theorem eight_news (w : World) (a b c d e f g h : Value) (t : TypeId) : ∀ j v, [a, b, c, d, e, f, g, h][j]? = some v → (w.alloc (.cells #[a, b, c, d, e, f, g, h] t)).cell? ((⟨w.heap.size, 0, none⟩ : Addr).add j) = some v := by
  intro j u hj
  match j, hj with
  | 0, hj => simp at hj; subst hj; simp [Addr.add]
  | 1, hj => simp at hj; subst hj; simp [Addr.add]
  | 2, hj => simp at hj; subst hj; simp [Addr.add]
  | 3, hj => simp at hj; subst hj; simp [Addr.add]
  | 4, hj => simp at hj; subst hj; simp [Addr.add]
  | 5, hj => simp at hj; subst hj; simp [Addr.add]
  | 6, hj => simp at hj; subst hj; simp [Addr.add]
  | 7, hj => simp at hj; subst hj; simp [Addr.add]
  | j + 8, hj => simp at hj
theorem flat8 (X : Regs) (us : List Int) : ∀ (L : List OpN) (j : Nat) (h : j < L.length) (c : Nat), c < 8 → (L.flatMap (resC X us))[j * 8 + c]? = (resC X us (L[j]'h))[c]?
  | [], j, h, c, hc => absurd h (Nat.not_lt_zero j)
  | i :: t, 0, h, c, hc => by
    rw [List.flatMap_cons, List.getElem?_append_left (by simp [resC]; omega)]
    simp
  | i :: t, j + 1, h, c, hc => by
    rw [List.flatMap_cons, List.getElem?_append_right (by simp [resC]; omega)]
    have e : (j + 1) * 8 + c - (resC X us i).length = j * 8 + c := by simp [resC]; omega
    rw [e, flat8 X us t j (by simpa using h) c hc]
    simp
theorem Tryz.infoRes : (Tryz.prog.info? 134).map (fun i => (i.zero, i.size, i.bytes)) = some (some (.agg #[.string ByteArray.empty, .int .i64 0, .int .i64 0, .int .i64 0, .int .u32 0, .int .i64 0, .int .u32 0, .int .u32 0]), 8, 64) := by kernel_rfl
structure ResAt (w : World) (g : Nat) (X : Regs) (us : List Int) (l : List OpN) : Prop where
  blk : ∃ cs, w.heap[g]? = some (.cells cs 134 (0, 0))
  row : ∀ j (h : j < l.length), w.rangeAt g (j * 8) (resC X us l[j])
theorem ResAt.lt {w : World} {g : Nat} {X : Regs} {us : List Int} {l : List OpN} (h : ResAt w g X us l) : g < w.heap.size := by
  obtain ⟨cs, h1⟩ := h.blk
  exact (Array.getElem?_eq_some_iff.1 h1).1
theorem ResAt.of_block {w w' : World} {g : Nat} {X : Regs} {us : List Int} {l : List OpN} (h : ResAt w g X us l) (e : w'.heap[g]? = w.heap[g]?) : ResAt w' g X us l where
  blk := by obtain ⟨cs, h1⟩ := h.blk; exact ⟨cs, e.trans h1⟩
  row j hj c v hv := (World.cell?_of_block (a := ⟨g, _, none⟩) e).trans (h.row j hj c v hv)
theorem resAt_own {w : World} {B : Nat} {v : Value} {X : Regs} {us : List Int} {l : List OpN} (h : w.ownsRow B 134 8 v l.length (l.flatMap (resC X us))) (hn : 0 < l.length) :
    ∃ g cap, v = .slice (some ⟨g, 0, none⟩) l.length cap ∧ B ≤ g ∧ ResAt w g X us l := by
  obtain ⟨hl, h' | ⟨g, cap, cur, hv, hg, hh, hc, hm, hs, ht⟩⟩ := id h
  · exact absurd h'.2 (by omega)
  · refine ⟨g, cap, hv, hg, ⟨_, hh⟩, fun j hj c u hu => ?_⟩
    have hc8 : c < 8 := by
      have := (List.getElem?_eq_some_iff.1 hu).1
      simpa [resC] using this
    rw [← flat8 X us l j hj c hc8, ← ht] at hu
    have hlt : j * 8 + c < l.length * 8 := by omega
    rw [List.getElem?_take_of_lt hlt, Array.getElem?_toList] at hu
    simp [World.cell?, hh, hu]
theorem ResAt.cells {w : World} {g : Nat} {X : Regs} {us : List Int} {l : List OpN} (h : ResAt w g X us l) (j : Nat) (hj : j < l.length) :
    w.cell? ⟨g, j * 8, none⟩ = some (.string (bsl l[j].kind.text)) ∧ w.cell? ⟨g, j * 8 + 1, none⟩ = some (.int .i64 (l[j].d : Int)) ∧ w.cell? ⟨g, j * 8 + 2, none⟩ = some (.int .i64 (l[j].a : Int)) ∧ w.cell? ⟨g, j * 8 + 3, none⟩ = some (.int .i64 l[j].b) ∧ w.cell? ⟨g, j * 8 + 4, none⟩ = some (.int .u32 l[j].imm) ∧ w.cell? ⟨g, j * 8 + 5, none⟩ = some (.int .i64 (l[j].at' : Int)) ∧ w.cell? ⟨g, j * 8 + 6, none⟩ = some (.int .u32 (resV l[j] X us)) ∧ w.cell? ⟨g, j * 8 + 7, none⟩ = some (.int .u32 (resB l[j] X)) :=
  ⟨h.row j hj 0 _ rfl, h.row j hj 1 _ rfl, h.row j hj 2 _ rfl, h.row j hj 3 _ rfl, h.row j hj 4 _ rfl, h.row j hj 5 _ rfl, h.row j hj 6 _ rfl, h.row j hj 7 _ rfl⟩
def HRowP (w : World) (r bb mw mh mb B n : Nat) (X : Regs) (wv : Value) (ws : List Int) (wt ht : Nat → Bool) (W : List StoW) (l : List OpN) (e : Ending) (w' : World) : Prop :=
  match l.find? (fun o => trapO wt o X) with
  | some o => e = .returned (.tuple #[.int .u32 0, .bool false, .int .i64 (o.at' : Int)]) ∧ Below w.heap.size w w'
  | none => ∃ pc lv wv', e = .returned (.tuple #[.int .u32 pc, .bool lv, .int .i64 (-1)]) ∧ rowLeave X l none = (if lv = true then some pc else none) ∧ EvS w' r bb mw mh mb B n (rowRegs X (applyW ws W) l X) wv' ws wt ht (rowWaits X l W) ∧ Below B w w'
theorem find_take {p : OpN → Bool} {l : List OpN} {j : Nat} (hj : j < l.length) (h : ∀ o ∈ l.take j, p o = false) (ht : p l[j] = true) : l.find? p = some l[j] := by
  conv => lhs; rw [← List.take_append_drop j l, List.drop_eq_getElem_cons hj]
  rw [List.find?_append, List.find?_eq_none.2 (fun o ho => by rw [h o ho]; decide), List.find?_cons, ht]
  rfl
theorem find_all {p : OpN → Bool} {l : List OpN} (h : ∀ o ∈ l, p o = false) : l.find? p = none := List.find?_eq_none.2 (fun o ho => by rw [h o ho]; decide)
end Go.Proofs.YtlnefmgiiogcmaaGreatDoor
namespace Go.Proofs.YtlnefmgiiogcmaaGreatDoor
open Go.RowKit
def IdxP (l : List Nat) (x : Nat) (w : World) (e : Ending) (w' : World) : Prop := w = w' ∧ ∃ r : Int, e = .returned (.int .i64 r) ∧ ((x ∈ l ∧ 0 ≤ r) ∨ (x ∉ l ∧ r = -1))
theorem take_not {l : List Nat} {x j : Nat} (h : x ∉ l.take j) (hj : j < l.length) (hx : l[j] ≠ x) : x ∉ l.take (j + 1) := by
  rw [List.take_succ_eq_append_getElem hj]
  intro h2
  rcases List.mem_append.1 h2 with h3 | h3
  · exact h h3
  · exact hx (List.mem_singleton.1 h3).symm
set_option maxHeartbeats 4000000 in
theorem idxInts {w : World} {v : Value} {l : List Nat} (h : IntsR w v l) (x : Nat) (hl : l.length ≤ 10) :
    Calls Tryz.prog 105 #[v, .int .i64 (x : Int)] w fun e w' => IdxP l x w e w' := by
  rcases h with ⟨rfl, rfl⟩ | ⟨b, rfl, hc⟩
  · go_enter Tryz.func105, Tryz.ntmps105
    go_wp2
    refine wp_loop_rounds 1 ?_
    rw [rounds_succ]
    go_wp2
    go_ret
    exact ⟨rfl, -1, rfl, Or.inr ⟨by simp, rfl⟩⟩
  · have HC := Lib.hid hc
    have hlI : (l.length : Int) ≤ 10 := by omega
    clear hc hl
    go_enter Tryz.func105, Tryz.ntmps105
    go_wp2
    go_loop [8] (fun i => ∃ j : Nat, j ≤ l.length ∧ i = .int .i64 (j : Int) ∧ Hid (x ∉ l.take j)) (fun i => l.length - (intOf i).toNat)
    case atStart => exact ⟨0, Nat.zero_le _, rfl, Lib.hid (by simp)⟩
    case round =>
      obtain ⟨j, hj, rfl, HN⟩ := hrel
      by_cases hlt : j < l.length
      · have hjI : (j : Int) < (l.length : Int) := by omega
        have c := HC.out j hlt
        have HJ := Lib.hid hlt
        have HT := Lib.hid (take_not HN.out hlt)
        have HM : Hid ((l[j] : Nat) = x → x ∈ l) := Lib.hid (fun e => e ▸ List.getElem_mem hlt)
        generalize l[j] = y at *
        clear hlt
        by_cases e : y = x
        · have HX := Lib.hid (HM.out e)
          subst e
          go_wp2
          go_ret
          exact ⟨rfl, _, rfl, Or.inl ⟨HX.out, by omega⟩⟩
        · have he : ((x : Int) == (y : Int)) = false := by
            rw [beq_eq_false_iff_ne]
            omega
          have HX := Lib.hid (HT.out e)
          clear e
          go_wp2
          go_round
          case rel => exact ⟨j + 1, HJ.out, by go_num, HX⟩
          case measure => have := HJ.out; go_light; simp [intOf]; omega
      · obtain rfl : j = l.length := by omega
        have hd : decide ((l.length : Int) < (l.length : Int)) = false := decide_eq_false (by omega)
        go_wp2
        go_ret
        exact ⟨rfl, -1, rfl, Or.inr ⟨by have := HN.out; rwa [List.take_length] at this, rfl⟩⟩
theorem hasInts {w : World} {v : Value} {l : List Nat} (h : IntsR w v l) (x : Nat) (hl : l.length ≤ 10) :
    Calls Tryz.prog 81 #[v, .int .i64 (x : Int)] w fun e w' => e = .returned (.bool (decide (x ∈ l))) ∧ w = w' := by
  have HI := Lib.hid (idxInts h x hl)
  obtain ⟨q, hq⟩ : ∃ q, decide (x ∈ l) = q := ⟨_, rfl⟩
  rw [hq]
  have HQ := Lib.hid hq
  clear hq h hl
  go_enter Tryz.func81, Tryz.ntmps81
  go_wp2_with fail
  refine HI.out.mono ?_
  rintro e w1 ⟨rfl, r, rfl, hr⟩
  rcases hr with ⟨h1, h2⟩ | ⟨h1, rfl⟩
  · have hq := HQ.out
    rw [decide_eq_true h1] at hq
    subst hq
    clear h1
    go_wp2
    go_ret
    exact ⟨rfl, rfl⟩
  · have hq := HQ.out
    rw [decide_eq_false h1] at hq
    subst hq
    clear h1
    go_wp2
    go_ret
    exact ⟨rfl, rfl⟩
theorem rdO_len (o : OpN) : (rdO o).length ≤ 3 := by
  obtain ⟨k, d, a, b, im, n⟩ := o
  cases k <;> simp [rdO]
end Go.Proofs.YtlnefmgiiogcmaaGreatDoor
namespace Go.Proofs.YtlnefmgiiogcmaaGreatDoor
open Go.RowKit
theorem countC_take (c : Nat) (l : List OpN) {j : Nat} (hj : j < l.length) : countC c (l.take (j + 1)) = countC c (l.take j) + if classO l[j] = c then 1 else 0 := by
  rw [List.take_succ_eq_append_getElem hj, countC_app]
theorem countC_le (c : Nat) (l : List OpN) : countC c l ≤ l.length := List.length_filter_le _ _
def CountsP (w : World) (l : List OpN) (e : Ending) (w' : World) : Prop := e = .returned (.agg #[.int .i64 (countC 0 l : Int), .int .i64 (countC 1 l : Int), .int .i64 (countC 2 l : Int)]) ∧ Below w.heap.size w w'
abbrev TriI (w : World) (b : Nat) (a0 a1 a2 : Int) : Prop := w.heap[b]? = some (.cells #[.int .i64 a0, .int .i64 a1, .int .i64 a2] 152 (0, 0))
theorem TriI.cells {w : World} {b : Nat} {a0 a1 a2 : Int} (h : TriI w b a0 a1 a2) : w.cell? ⟨b, 0, none⟩ = some (.int .i64 a0) ∧ w.cell? ⟨b, 1, none⟩ = some (.int .i64 a1) ∧ w.cell? ⟨b, 2, none⟩ = some (.int .i64 a2) ∧ w.frozen? ⟨b, 0, none⟩ = false ∧ w.frozen? ⟨b, 1, none⟩ = false ∧ w.frozen? ⟨b, 2, none⟩ = false := by
  unfold TriI at h
  refine ⟨?_, ?_, ?_, ?_, ?_, ?_⟩ <;> simp [World.cell?, World.frozen?, h]
set_option maxHeartbeats 8000000 in
set_option maxRecDepth 100000 in
theorem planCounts {w : World} {g cap : Nat} {l : List OpN} (h : OpsAt w g l) (hl : l.length ≤ 100) :
    Calls Tryz.prog 83 #[.slice (some ⟨g, 0, none⟩) l.length cap] w fun e w' => CountsP w l e w' := by
  have hb0 := (Below.refl w.heap.size w).alloc (Nat.le_refl _) (.cells #[.int .i64 0, .int .i64 0, .int .i64 0] 152)
  have HB0 := Lib.hid hb0
  have HX0 := Lib.hid (heap_alloc_new w (.cells #[.int .i64 0, .int .i64 0, .int .i64 0] 152))
  have HO := Lib.hid h
  have hlI : (l.length : Int) ≤ 100 := by omega
  have HL := Lib.hid hl
  clear h hl hb0
  go_enter Tryz.func83, Tryz.ntmps83
  go_wp2_with fail
  generalize w.alloc _ = W0 at *
  go_loopw [7] (fun iv wr => ∃ j : Nat, j ≤ l.length ∧ iv = .int .i64 (j : Int) ∧ Hid (TriI wr w.heap.size (countC 0 (l.take j) : Int) (countC 1 (l.take j) : Int) (countC 2 (l.take j) : Int) ∧ Below w.heap.size w wr)) (fun iv _ => l.length - (intOf iv).toNat)
  case atStart => exact ⟨0, Nat.zero_le _, rfl, Lib.hid ⟨HX0.out, HB0.out⟩⟩
  case round =>
    obtain ⟨j, hj, rfl, HR⟩ := hrel
    by_cases hlt : j < l.length
    · have hjI : (j : Int) < (l.length : Int) := by omega
      obtain ⟨c0, c1, c2, c3, c4, c5⟩ := (HO.out.below HR.out.2 HO.out.lt).cells j hlt
      have HN0 := Lib.hid (countC_take 0 l hlt)
      have HN1 := Lib.hid (countC_take 1 l hlt)
      have HN2 := Lib.hid (countC_take 2 l hlt)
      have hk0 := countC_le 0 (l.take j)
      have hk1 := countC_le 1 (l.take j)
      have hk2 := countC_le 2 (l.take j)
      rw [List.length_take] at hk0 hk1 hk2
      have hq0 : (countC 0 (l.take j) : Int) ≤ 100 := by have := HL.out; omega
      have hq1 : (countC 1 (l.take j) : Int) ≤ 100 := by have := HL.out; omega
      have hq2 : (countC 2 (l.take j) : Int) ≤ 100 := by have := HL.out; omega
      have HK := Lib.hid hlt
      have HCL := Lib.hid (fun wx => planClass l[j] wx)
      have hc3 := classO_3 l[j]
      clear hk0 hk1 hk2
      generalize countC 0 (l.take j) = n0 at *
      generalize countC 1 (l.take j) = n1 at *
      generalize countC 2 (l.take j) = n2 at *
      generalize l[j] = o at *
      obtain ⟨k, d, a, b, im, m⟩ := o
      simp only at c0 c1 c2 c3 c4 c5
      unfold opV opA at HCL
      simp only at HCL
      generalize classO ⟨k, d, a, b, im, m⟩ = cl at *
      generalize bsl k.text = kt at *
      clear hlt
      rcases hc3 with rfl | rfl | rfl
      all_goals
        go_wp2_with fail
        generalize hX : wr.alloc _ = X
        have hx0 := (Below.refl wr.heap.size wr).alloc (Nat.le_refl _) (.cells #[.string kt, .int .i64 (d : Int), .int .i64 (a : Int), .int .i64 b, .int .u32 im, .int .i64 (m : Int)] 61)
        rw [hX] at hx0
        clear hX
        refine (HCL.out _).mono ?_
        rintro e w3 ⟨rfl, hb3⟩
        have ht3 : TriI w3 w.heap.size (n0 : Int) (n1 : Int) (n2 : Int) := (hb3.block _ (Nat.lt_of_lt_of_le (Array.getElem?_eq_some_iff.1 HR.out.1).1 hx0.size)).trans ((hx0.block _ (Array.getElem?_eq_some_iff.1 HR.out.1).1).trans HR.out.1)
        have HB3 := Lib.hid (HR.out.2.trans ((hx0.trans (hb3.mono hx0.size)).mono HR.out.2.size))
        have HT3 := Lib.hid ht3
        obtain ⟨d0, d1, d2, e0, e1, e2⟩ := TriI.cells ht3
        have s0 := Joins.block_setCell (i := 0) ht3 (.int .i64 ((n0 : Int) + 1))
        have s1 := Joins.block_setCell (i := 1) ht3 (.int .i64 ((n1 : Int) + 1))
        have s2 := Joins.block_setCell (i := 2) ht3 (.int .i64 ((n2 : Int) + 1))
        have S0 : Hid (TriI (w3.setCell ⟨w.heap.size, 0, none⟩ (.int .i64 ((n0 : Int) + 1))) w.heap.size ((n0 : Int) + 1) (n1 : Int) (n2 : Int)) := Lib.hid s0
        have S1 : Hid (TriI (w3.setCell ⟨w.heap.size, 1, none⟩ (.int .i64 ((n1 : Int) + 1))) w.heap.size (n0 : Int) ((n1 : Int) + 1) (n2 : Int)) := Lib.hid s1
        have S2 : Hid (TriI (w3.setCell ⟨w.heap.size, 2, none⟩ (.int .i64 ((n2 : Int) + 1))) w.heap.size (n0 : Int) (n1 : Int) ((n2 : Int) + 1)) := Lib.hid s2
        clear hx0 hb3 ht3 s0 s1 s2 HCL
        go_wp2_with fail
        go_roundw
        case rel =>
          refine ⟨j + 1, HK.out, by go_num, Lib.hid ⟨?_, HB3.out.setCell (Nat.le_refl _) _⟩⟩
          rw [HN0.out, HN1.out, HN2.out]
          first | exact S0.out | exact S1.out | exact S2.out
        case measure => have := HK.out; go_light; simp [intOf]; omega
    · obtain rfl : j = l.length := by omega
      have hd : decide ((l.length : Int) < (l.length : Int)) = false := decide_eq_false (by omega)
      rw [List.take_length] at HR
      obtain ⟨d0, d1, d2, e0, e1, e2⟩ := TriI.cells HR.out.1
      have hf0 := Joins.block_setCell (i := 2) (Joins.block_setCell (i := 1) (Joins.block_setCell (i := 0) HR.out.1 (.int .i64 (countC 0 l : Int))) (.int .i64 (countC 1 l : Int))) (.int .i64 (countC 2 l : Int))
      have HF : Hid (TriI (((wr.setCell ⟨w.heap.size, 0, none⟩ (.int .i64 (countC 0 l : Int))).setCell ⟨w.heap.size, 1, none⟩ (.int .i64 (countC 1 l : Int))).setCell ⟨w.heap.size, 2, none⟩ (.int .i64 (countC 2 l : Int))) w.heap.size (countC 0 l : Int) (countC 1 l : Int) (countC 2 l : Int)) := Lib.hid hf0
      have HBF := Lib.hid (((HR.out.2.setCell (p := ⟨w.heap.size, 0, none⟩) (Nat.le_refl _) (.int .i64 (countC 0 l : Int))).setCell (p := ⟨w.heap.size, 1, none⟩) (Nat.le_refl _) (.int .i64 (countC 1 l : Int))).setCell (p := ⟨w.heap.size, 2, none⟩) (Nat.le_refl _) (.int .i64 (countC 2 l : Int)))
      clear hf0
      go_wp2_with fail
      generalize ((wr.setCell ⟨w.heap.size, 0, none⟩ (.int .i64 (countC 0 l : Int))).setCell ⟨w.heap.size, 1, none⟩ (.int .i64 (countC 1 l : Int))).setCell ⟨w.heap.size, 2, none⟩ (.int .i64 (countC 2 l : Int)) = W9 at *
      obtain ⟨y0, y1, y2, _, _, _⟩ := TriI.cells HF.out
      exact bodyPost_ret (v := .agg #[.int .i64 (countC 0 l : Int), .int .i64 (countC 1 l : Int), .int .i64 (countC 2 l : Int)]) (by simp [results, Tryz.results83, go_sem, y0, y1, y2]) rfl ⟨rfl, HBF.out⟩
end Go.Proofs.YtlnefmgiiogcmaaGreatDoor
