/- The maker of a plan as it lies in memory; the walk of its from. The walk of plan's from. The walk of plan's fits. A plan's maker, changed: a row more, an op in a row, its fields, its maps. The walk of opt's fold. Conditions: as each theorem states. -/
import Derived.Test.YtlnefmgiiogcmaaGreatDoorQ27
import Derived.Test.YtlnefmgiiogcmaaGreatDoorQ23
import Derived.Deep.RegionHeld3
set_option linter.unusedVariables false
set_option linter.unusedSimpArgs false
namespace Go.Proofs.YtlnefmgiiogcmaaGreatDoor
open Go.RowKit
def natF (f : Nat → Option Nat) : Int → Option Int := fun p => if p < 0 then none else (f p.toNat).map (fun (x : Nat) => (x : Int))
abbrev NatM (w : World) (b : Nat) (f : Nat → Option Nat) (n : Nat) : Prop := MapF Tryz.prog 3 3 (some .i64) w b (natF f) n
theorem natF_at (f : Nat → Option Nat) (r : Nat) : natF f (r : Int) = (f r).map (fun (x : Nat) => (x : Int)) := by
  unfold natF
  rw [if_neg (by omega)]
  rfl
theorem i64Zero (w : World) : (zeroValue 3).run Tryz.prog w = .ok (valOf (some .i64) 0) w := by kernel_rfl
section
variable {w : World} {b n : Nat} {f : Nat → Option Nat}
theorem NatM.none (h : NatM w b f n) {r : Nat} (hr : r < 1000) (e : f r = none) : (Instr.lookup 77 (.map (some b)) (.int .i64 (r : Int)) true).run Tryz.prog w = .ok (.tuple #[.int .i64 0, .bool false]) w := by
  have hl := MapF.look_ok h (t := 77) Tryz.underlying3 Tryz.underlying77 Tryz.underlying3 (i64Zero w) (p := (r : Int)) (wf_range (by omega) (by omega))
  rw [natF_at, e] at hl
  exact hl
theorem NatM.some (h : NatM w b f n) {r q : Nat} (hr : r < 1000) (e : f r = some q) : (Instr.lookup 77 (.map (some b)) (.int .i64 (r : Int)) true).run Tryz.prog w = .ok (.tuple #[.int .i64 (q : Int), .bool true]) w := by
  have hl := MapF.look_ok h (t := 77) Tryz.underlying3 Tryz.underlying77 Tryz.underlying3 (i64Zero w) (p := (r : Int)) (wf_range (by omega) (by omega))
  rw [natF_at, e] at hl
  exact hl
end
def natD (x : Option Nat) : Nat := match x with | .some q => q | .none => 0
theorem natM_get {w : World} {b n : Nat} {f : Nat → Option Nat} (h : NatM w b f n) {r : Nat} (hr : r < 1000) : (Instr.lookup 77 (.map (.some b)) (.int .i64 (r : Int)) false).run Tryz.prog w = .ok (.int .i64 (natD (f r) : Int)) w := by
  have hl := MapF.look h (t := 77) Tryz.underlying3 Tryz.underlying77 Tryz.underlying3 (i64Zero w) (p := (r : Int)) (wf_range (by omega) (by omega))
  rw [natF_at] at hl
  cases e : f r with
  | none => rw [e] at hl; exact hl
  | some q => rw [e] at hl; exact hl
structure MkW (w : World) (B mb : Nat) (m : Mk) (rv : Value) (vs : List Value) (bw br n : Nat) : Prop where
  blk : w.heap[mb]? = some (.cells #[rv, .map (some bw), .map (some br), .int .i64 ((m.stN : Int) - 1), .int .i64 ((m.ldN : Int) - 1), .int .i64 (m.leave : Int), .int .i64 (m.first : Int)] 79 (0, 0))
  rows : w.ownsRow B 32 1 rv vs.length vs
  len : vs.length = m.rows.length
  row : ∀ j (h1 : j < vs.length) (h2 : j < m.rows.length), w.ownsRow B 61 6 vs[j] m.rows[j].length (m.rows[j].flatMap opC)
  apart : ∀ i j (hi : i < vs.length) (hj : j < vs.length) (g : Nat), i ≠ j → vs[i].ownBlock = some g → vs[j].ownBlock ≠ some g
  wr : NatM w bw m.write n
  rd : NatM w br m.read n
  ne : bw ≠ br
  new : B ≤ mb ∧ B ≤ bw ∧ B ≤ br
theorem seven_cells {w : World} {b : Nat} {t : TypeId} {a0 a1 a2 a3 a4 a5 a6 : Value} (h : w.heap[b]? = some (Obj.cells #[a0, a1, a2, a3, a4, a5, a6] t (0, 0))) :
    (w.cell? ⟨b, 0, none⟩ = some a0 ∧ w.cell? ⟨b, 1, none⟩ = some a1 ∧ w.cell? ⟨b, 2, none⟩ = some a2 ∧ w.cell? ⟨b, 3, none⟩ = some a3 ∧ w.cell? ⟨b, 4, none⟩ = some a4 ∧ w.cell? ⟨b, 5, none⟩ = some a5 ∧ w.cell? ⟨b, 6, none⟩ = some a6) ∧ ∀ i, w.frozen? ⟨b, i, none⟩ = false := by
  refine ⟨⟨?_, ?_, ?_, ?_, ?_, ?_, ?_⟩, fun i => ?_⟩ <;> simp [World.cell?, World.frozen?, h]
section
variable {w : World} {B mb bw br n : Nat} {m : Mk} {rv : Value} {vs : List Value}
theorem MkW.lt (h : MkW w B mb m rv vs bw br n) : mb < w.heap.size := (Array.getElem?_eq_some_iff.1 h.blk).1
theorem MkW.below {w' : World} (h : MkW w B mb m rv vs bw br n) (hb : Below w.heap.size w w') : MkW w' B mb m rv vs bw br n where
  blk := (hb.block mb h.lt).trans h.blk
  rows := own_below h.rows hb
  len := h.len
  row j h1 h2 := own_below (h.row j h1 h2) hb
  apart := h.apart
  wr := h.wr.of_block (hb.block bw h.wr.lt)
  rd := h.rd.of_block (hb.block br h.rd.lt)
  ne := h.ne
  new := h.new
end
structure MkS (m : Mk) : Prop where
  fst : m.first ≤ 500
  lv : m.leave ≤ 500
  st : m.stN ≤ 500
  ld : m.ldN ≤ 500
  wr : ∀ r q, m.write r = some q → q ≤ 500
  rd : ∀ r q, m.read r = some q → q ≤ 500
  len : m.rows.length ≤ 500
theorem behindW_le {m : Mk} (h : MkS m) {k : Nat} (hk : k ≤ 501) (r : Nat) : behindW m k r ≤ 501 := by
  unfold behindW
  cases e : m.write r with
  | none => exact hk
  | some q =>
    have := h.wr r q e
    show max k (q + 1) ≤ 501
    omega
theorem fold_le {m : Mk} (h : MkS m) : ∀ (l : List Nat) (k : Nat), k ≤ 501 → l.foldl (behindW m) k ≤ 501
  | [], k, hk => hk
  | r :: l, k, hk => fold_le h l _ (behindW_le h hk r)
theorem rdO_small {o : OpN} (hg : opG o) : ∀ r ∈ rdO o, r < 64 := by
  obtain ⟨k, d, a, b, im, n⟩ := o
  intro r hr
  cases k <;> simp only [opG] at hg <;> simp only [rdO, List.mem_cons, List.not_mem_nil, or_false] at hr <;> omega
theorem wrO_small {o : OpN} (hg : opG o) : wrO o < 64 := by
  obtain ⟨k, d, a, b, im, n⟩ := o
  cases k <;> simp only [opG] at hg <;> simp only [wrO] <;> omega
end Go.Proofs.YtlnefmgiiogcmaaGreatDoor
namespace Go.Proofs.YtlnefmgiiogcmaaGreatDoor
open Go.RowKit
def OneP (w : World) (v : Value) (e : Ending) (w' : World) : Prop := e = .returned v ∧ Below w.heap.size w w'
theorem lit_cases (k : OpK) : (k = .load ∧ k.lit = ⟨#[108, 111, 97, 100]⟩) ∨ (k = .store ∧ k.lit = ⟨#[115, 116, 111, 114, 101]⟩) ∨ (loadK k = false ∧ storeK k = false ∧ ((k.lit.toList == [108, 111, 97, 100]) = false ∧ ¬ k.lit.toList = [108, 111, 97, 100]) ∧ ((k.lit.toList == [115, 116, 111, 114, 101]) = false ∧ ¬ k.lit.toList = [115, 116, 111, 114, 101])) := by
  cases k <;> first | exact Or.inl ⟨rfl, rfl⟩ | exact Or.inr (Or.inl ⟨rfl, rfl⟩) | exact Or.inr (Or.inr ⟨rfl, rfl, ⟨by decide +kernel, by decide +kernel⟩, ⟨by decide +kernel, by decide +kernel⟩⟩)
set_option maxHeartbeats 16000000 in
set_option maxRecDepth 100000 in
theorem from_at {w : World} {B mb bw br N : Nat} {mk : Mk} {rv : Value} {vs : List Value} (h : MkW w B mb mk rv vs bw br N) (hs : MkS mk) {k : OpK} {d a n : Nat} {b im : Int} (hg : opG ⟨k, d, a, b, im, n⟩) :
    Calls Tryz.prog 52 #[.pointer (some ⟨mb, 0, none⟩), .agg #[.string k.lit, .int .i64 (d : Int), .int .i64 (a : Int), .int .i64 b, .int .u32 im, .int .i64 (n : Int)]] w fun e w' => OneP w (.int .i64 (fromM mk ⟨k, d, a, b, im, n⟩ : Int)) e w' := by
  have hb' := (Below.refl w.heap.size w).alloc (Nat.le_refl _) (.cells #[.string k.lit, .int .i64 (d : Int), .int .i64 (a : Int), .int .i64 b, .int .u32 im, .int .i64 (n : Int)] 61)
  have HM := Lib.hid (h.below hb')
  have HB := Lib.hid hb'
  have HX := Lib.hid (heap_alloc_new w (.cells #[.string k.lit, .int .i64 (d : Int), .int .i64 (a : Int), .int .i64 b, .int .u32 im, .int .i64 (n : Int)] 61))
  have HRD := Lib.hid (fun wx => optReads_at (k := k) hg wx)
  have HWR := Lib.hid (fun wx => optWrites_at (d := d) (a := a) (n := n) (b := b) (im := im) k wx)
  have HLV := Lib.hid (fun wx => (by have := irLeaves_any k wx; rw [lit_text] at this; exact this : Calls Tryz.prog 30 #[.string k.lit] wx fun e w' => e = .returned (.bool (leavesK k)) ∧ wx = w'))
  have HRS := Lib.hid (rdO_small hg)
  have hws := wrO_small hg
  have HRL := Lib.hid (rdO_len ⟨k, d, a, b, im, n⟩)
  have HS := Lib.hid hs
  have HK := Lib.hid (lit_cases k)
  have HF : Hid (fromM mk ⟨k, d, a, b, im, n⟩ = if loadK k = true then max (fromW mk ⟨k, d, a, b, im, n⟩ (fromR mk ⟨k, d, a, b, im, n⟩)) mk.stN else if storeK k = true then max (max (fromW mk ⟨k, d, a, b, im, n⟩ (fromR mk ⟨k, d, a, b, im, n⟩)) mk.stN) (mk.ldN - 1) else if leavesO k = true then max (fromW mk ⟨k, d, a, b, im, n⟩ (fromR mk ⟨k, d, a, b, im, n⟩)) mk.leave else fromW mk ⟨k, d, a, b, im, n⟩ (fromR mk ⟨k, d, a, b, im, n⟩)) := Lib.hid rfl
  have HFR : Hid (fromR mk ⟨k, d, a, b, im, n⟩ = (rdO ⟨k, d, a, b, im, n⟩).foldl (behindW mk) mk.first) := Lib.hid rfl
  have HFW : Hid (∀ q, fromW mk ⟨k, d, a, b, im, n⟩ q = if wrO ⟨k, d, a, b, im, n⟩ = 0 then q else match mk.read (wrO ⟨k, d, a, b, im, n⟩) with | some r => max (behindW mk q (wrO ⟨k, d, a, b, im, n⟩)) r | none => behindW mk q (wrO ⟨k, d, a, b, im, n⟩)) := Lib.hid (fun _ => rfl)
  obtain ⟨V, hV⟩ : ∃ V, fromM mk ⟨k, d, a, b, im, n⟩ = V := ⟨_, rfl⟩
  rw [hV] at HF ⊢
  have hfI : (mk.first : Int) ≤ 500 := by have := hs.fst; omega
  clear hV hs hg hb' h
  generalize fromR mk ⟨k, d, a, b, im, n⟩ = FR at *
  generalize hFWf : fromW mk ⟨k, d, a, b, im, n⟩ = FW at *
  clear hFWf
  generalize rdO ⟨k, d, a, b, im, n⟩ = RD at *
  generalize wrO ⟨k, d, a, b, im, n⟩ = wd at *
  have hwd : (wd : Int) < 64 := by omega
  clear hws
  rw [leavesK_O] at HLV
  generalize leavesO k = lvq at *
  go_enter Tryz.func52, Tryz.ntmps52
  obtain ⟨⟨m0, m1, m2, m3, m4, m5, m6⟩, mf⟩ := seven_cells HM.out.blk
  obtain ⟨c0, c1, c2, c3, c4, c5⟩ := six_cells HX.out
  generalize hkt : k.lit = kt at *
  have HKT := Lib.hid hkt
  clear hkt
  go_wp2_with fail
  refine (HRD.out _).mono ?_
  intro e w2 h2
  obtain ⟨v2, rfl, hv2, hb2⟩ := h2
  have HM2 := Lib.hid (HM.out.below hb2)
  have HX2 := Lib.hid ((hb2.block _ (Array.getElem?_eq_some_iff.1 HX.out).1).trans HX.out)
  have HB2 := Lib.hid (bwT HB.out hb2)
  have HV2 := Lib.hid hv2
  clear hv2 hb2 HM HX HB c0 c1 c2 c3 c4 c5 m0 m1 m2 m3 m4 m5 m6 mf HRD
  obtain ⟨⟨m0, m1, m2, m3, m4, m5, m6⟩, mf⟩ := seven_cells HM2.out.blk
  obtain ⟨c0, c1, c2, c3, c4, c5⟩ := six_cells HX2.out
  rcases HV2.out with ⟨hnil, rfl⟩ | ⟨vb, rfl, hvc⟩
  · have HFR2 := Lib.hid (show FR = mk.first by rw [HFR.out, hnil]; rfl)
    clear hnil HV2 HFR
    go_wp2_with fail
    refine wp_loop_rounds 1 ?_
    rw [rounds_succ, ← HFR2.out]
    have hfr : (FR : Int) ≤ 501 := by rw [HFR2.out]; omega
    go_wp2_with fail
    refine (HWR.out _).mono ?_
    rintro e w4 ⟨rfl, hb4⟩
    have HM4 := Lib.hid (HM2.out.below hb4)
    have HX4 := Lib.hid ((hb4.block _ (Array.getElem?_eq_some_iff.1 HX2.out).1).trans HX2.out)
    have HB4 := Lib.hid (bwT HB2.out hb4)
    clear hb4 HM2 HX2 HB2 c0 c1 c2 c3 c4 c5 m0 m1 m2 m3 m4 m5 m6 mf HWR
    obtain ⟨c0, c1, c2, c3, c4, c5⟩ := six_cells HX4.out
    obtain ⟨⟨m0, m1, m2, m3, m4, m5, m6⟩, mf⟩ := seven_cells HM4.out.blk
    have hstI : (mk.stN : Int) ≤ 500 := by have := HS.out.st; omega
    have hldI : (mk.ldN : Int) ≤ 500 := by have := HS.out.ld; omega
    have hlvI : (mk.leave : Int) ≤ 500 := by have := HS.out.lv; omega
    by_cases hw0 : wd = 0
    · have HFE : Hid (FW FR = FR) := Lib.hid (by rw [HFW.out, if_pos hw0])
      subst hw0
      clear HFW
      rcases HK.out with ⟨rfl, rfl⟩ | ⟨rfl, rfl⟩ | ⟨h1, h2, ⟨n1, n2⟩, ⟨n3, n4⟩⟩
      · have HV : Hid (V = max (FW FR) mk.stN) := Lib.hid (by have h := HF.out; rw [if_pos (show loadK OpK.load = true from rfl)] at h; exact h)
        clear HF HK
        go_wp2
        go_ret
        exact ⟨ret_int (by rw [HV.out, HFE.out]; try omega), HB4.out⟩
      · have HV : Hid (V = max (max (FW FR) mk.stN) (mk.ldN - 1)) := Lib.hid (by have h := HF.out; rw [if_neg (show ¬ loadK OpK.store = true by decide), if_pos (show storeK OpK.store = true from rfl)] at h; exact h)
        clear HF HK
        go_wp2
        go_region
        all_goals go_wp2
        all_goals (go_ret; exact ⟨ret_int (by rw [HV.out, HFE.out]; try omega), HB4.out.drew⟩)
      · have HV : Hid (V = if lvq = true then max (FW FR) mk.leave else FW FR) := Lib.hid (by have h := HF.out; rw [if_neg (by rw [h1]; decide), if_neg (by rw [h2]; decide)] at h; exact h)
        clear HF HK h1 h2
        cases lvq with
        | true =>
          have HV2 := Lib.hid (show V = max (FW FR) mk.leave from HV.out)
          clear HV
          go_wp2_with (go_at_call 30; (with_reducible refine (HLV.out _).mono ?_); rintro e w6 ⟨rfl, rfl⟩)
          go_ret
          exact ⟨ret_int (by rw [HV2.out, HFE.out]; try omega), HB4.out⟩
        | false =>
          have HV2 := Lib.hid (show V = FW FR from HV.out)
          clear HV
          go_wp2_with (go_at_call 30; (with_reducible refine (HLV.out _).mono ?_); rintro e w6 ⟨rfl, rfl⟩)
          go_ret
          exact ⟨ret_int (by rw [HV2.out, HFE.out]; try omega), HB4.out⟩
    · have hwne : ((wd : Int) != 0) = true := by simpa using hw0
      have hwn := HM4.out.wr.none (r := wd) (by omega)
      have hws := fun x => HM4.out.wr.some (r := wd) (q := x) (by omega)
      have hrn := HM4.out.rd.none (r := wd) (by omega)
      have hrs := fun x => HM4.out.rd.some (r := wd) (q := x) (by omega)
      have hbw := HS.out.wr wd
      have hbr := HS.out.rd wd
      have hfw := HFW.out FR
      rw [if_neg hw0] at hfw
      clear HFW hw0
      cases hq1 : mk.write wd with
      | none =>
        have hl1 := hwn hq1
        cases hq2 : mk.read wd with
        | none =>
          have hl2 := hrn hq2
          have HFE : Hid (FW FR = FR) := Lib.hid (by rw [hfw, hq2]; unfold behindW; rw [hq1])
          clear hq1 hq2 hfw hwn hws hrn hrs hbw hbr
          rcases HK.out with ⟨rfl, rfl⟩ | ⟨rfl, rfl⟩ | ⟨h1, h2, ⟨n1, n2⟩, ⟨n3, n4⟩⟩
          · have HV : Hid (V = max (FW FR) mk.stN) := Lib.hid (by have h := HF.out; rw [if_pos (show loadK OpK.load = true from rfl)] at h; exact h)
            clear HF HK
            go_wp2
            go_ret
            exact ⟨ret_int (by rw [HV.out, HFE.out]; try omega), HB4.out⟩
          · have HV : Hid (V = max (max (FW FR) mk.stN) (mk.ldN - 1)) := Lib.hid (by have h := HF.out; rw [if_neg (show ¬ loadK OpK.store = true by decide), if_pos (show storeK OpK.store = true from rfl)] at h; exact h)
            clear HF HK
            go_wp2
            go_region
            all_goals go_wp2
            all_goals (go_ret; exact ⟨ret_int (by rw [HV.out, HFE.out]; try omega), HB4.out.drew⟩)
          · have HV : Hid (V = if lvq = true then max (FW FR) mk.leave else FW FR) := Lib.hid (by have h := HF.out; rw [if_neg (by rw [h1]; decide), if_neg (by rw [h2]; decide)] at h; exact h)
            clear HF HK h1 h2
            cases lvq with
            | true =>
              have HV2 := Lib.hid (show V = max (FW FR) mk.leave from HV.out)
              clear HV
              go_wp2_with (go_at_call 30; (with_reducible refine (HLV.out _).mono ?_); rintro e w6 ⟨rfl, rfl⟩)
              go_ret
              exact ⟨ret_int (by rw [HV2.out, HFE.out]; try omega), HB4.out⟩
            | false =>
              have HV2 := Lib.hid (show V = FW FR from HV.out)
              clear HV
              go_wp2_with (go_at_call 30; (with_reducible refine (HLV.out _).mono ?_); rintro e w6 ⟨rfl, rfl⟩)
              go_ret
              exact ⟨ret_int (by rw [HV2.out, HFE.out]; try omega), HB4.out⟩
        | some y =>
          have hl2 := hrs y hq2
          have hy := hbr y hq2
          have hyI : (y : Int) ≤ 500 := by omega
          have HFE : Hid (FW FR = max FR y) := Lib.hid (by rw [hfw, hq2]; unfold behindW; rw [hq1])
          clear hq1 hq2 hfw hwn hws hrn hrs hbw hbr hy
          rcases HK.out with ⟨rfl, rfl⟩ | ⟨rfl, rfl⟩ | ⟨h1, h2, ⟨n1, n2⟩, ⟨n3, n4⟩⟩
          · have HV : Hid (V = max (FW FR) mk.stN) := Lib.hid (by have h := HF.out; rw [if_pos (show loadK OpK.load = true from rfl)] at h; exact h)
            clear HF HK
            go_wp2
            go_ret
            exact ⟨ret_int (by rw [HV.out, HFE.out]; try omega), HB4.out⟩
          · have HV : Hid (V = max (max (FW FR) mk.stN) (mk.ldN - 1)) := Lib.hid (by have h := HF.out; rw [if_neg (show ¬ loadK OpK.store = true by decide), if_pos (show storeK OpK.store = true from rfl)] at h; exact h)
            clear HF HK
            go_wp2
            go_region
            all_goals go_wp2
            all_goals (go_ret; exact ⟨ret_int (by rw [HV.out, HFE.out]; try omega), HB4.out.drew⟩)
          · have HV : Hid (V = if lvq = true then max (FW FR) mk.leave else FW FR) := Lib.hid (by have h := HF.out; rw [if_neg (by rw [h1]; decide), if_neg (by rw [h2]; decide)] at h; exact h)
            clear HF HK h1 h2
            cases lvq with
            | true =>
              have HV2 := Lib.hid (show V = max (FW FR) mk.leave from HV.out)
              clear HV
              go_wp2_with (go_at_call 30; (with_reducible refine (HLV.out _).mono ?_); rintro e w6 ⟨rfl, rfl⟩)
              go_ret
              exact ⟨ret_int (by rw [HV2.out, HFE.out]; try omega), HB4.out⟩
            | false =>
              have HV2 := Lib.hid (show V = FW FR from HV.out)
              clear HV
              go_wp2_with (go_at_call 30; (with_reducible refine (HLV.out _).mono ?_); rintro e w6 ⟨rfl, rfl⟩)
              go_ret
              exact ⟨ret_int (by rw [HV2.out, HFE.out]; try omega), HB4.out⟩
      | some x =>
        have hl1 := hws x hq1
        have hx := hbw x hq1
        have hxI : (x : Int) ≤ 500 := by omega
        cases hq2 : mk.read wd with
        | none =>
          have hl2 := hrn hq2
          have HFE : Hid (FW FR = max FR (x + 1)) := Lib.hid (by rw [hfw, hq2]; unfold behindW; rw [hq1])
          clear hq1 hq2 hfw hwn hws hrn hrs hbw hbr hx
          rcases HK.out with ⟨rfl, rfl⟩ | ⟨rfl, rfl⟩ | ⟨h1, h2, ⟨n1, n2⟩, ⟨n3, n4⟩⟩
          · have HV : Hid (V = max (FW FR) mk.stN) := Lib.hid (by have h := HF.out; rw [if_pos (show loadK OpK.load = true from rfl)] at h; exact h)
            clear HF HK
            go_wp2
            go_ret
            exact ⟨ret_int (by rw [HV.out, HFE.out]; try omega), HB4.out⟩
          · have HV : Hid (V = max (max (FW FR) mk.stN) (mk.ldN - 1)) := Lib.hid (by have h := HF.out; rw [if_neg (show ¬ loadK OpK.store = true by decide), if_pos (show storeK OpK.store = true from rfl)] at h; exact h)
            clear HF HK
            go_wp2
            go_region
            all_goals go_wp2
            all_goals (go_ret; exact ⟨ret_int (by rw [HV.out, HFE.out]; try omega), HB4.out.drew⟩)
          · have HV : Hid (V = if lvq = true then max (FW FR) mk.leave else FW FR) := Lib.hid (by have h := HF.out; rw [if_neg (by rw [h1]; decide), if_neg (by rw [h2]; decide)] at h; exact h)
            clear HF HK h1 h2
            cases lvq with
            | true =>
              have HV2 := Lib.hid (show V = max (FW FR) mk.leave from HV.out)
              clear HV
              go_wp2_with (go_at_call 30; (with_reducible refine (HLV.out _).mono ?_); rintro e w6 ⟨rfl, rfl⟩)
              go_ret
              exact ⟨ret_int (by rw [HV2.out, HFE.out]; try omega), HB4.out⟩
            | false =>
              have HV2 := Lib.hid (show V = FW FR from HV.out)
              clear HV
              go_wp2_with (go_at_call 30; (with_reducible refine (HLV.out _).mono ?_); rintro e w6 ⟨rfl, rfl⟩)
              go_ret
              exact ⟨ret_int (by rw [HV2.out, HFE.out]; try omega), HB4.out⟩
        | some y =>
          have hl2 := hrs y hq2
          have hy := hbr y hq2
          have hyI : (y : Int) ≤ 500 := by omega
          have HFE : Hid (FW FR = max (max FR (x + 1)) y) := Lib.hid (by rw [hfw, hq2]; unfold behindW; rw [hq1])
          clear hq1 hq2 hfw hwn hws hrn hrs hbw hbr hx hy
          rcases HK.out with ⟨rfl, rfl⟩ | ⟨rfl, rfl⟩ | ⟨h1, h2, ⟨n1, n2⟩, ⟨n3, n4⟩⟩
          · have HV : Hid (V = max (FW FR) mk.stN) := Lib.hid (by have h := HF.out; rw [if_pos (show loadK OpK.load = true from rfl)] at h; exact h)
            clear HF HK
            go_wp2
            go_ret
            exact ⟨ret_int (by rw [HV.out, HFE.out]; try omega), HB4.out⟩
          · have HV : Hid (V = max (max (FW FR) mk.stN) (mk.ldN - 1)) := Lib.hid (by have h := HF.out; rw [if_neg (show ¬ loadK OpK.store = true by decide), if_pos (show storeK OpK.store = true from rfl)] at h; exact h)
            clear HF HK
            go_wp2
            go_region
            all_goals go_wp2
            all_goals (go_ret; exact ⟨ret_int (by rw [HV.out, HFE.out]; try omega), HB4.out.drew⟩)
          · have HV : Hid (V = if lvq = true then max (FW FR) mk.leave else FW FR) := Lib.hid (by have h := HF.out; rw [if_neg (by rw [h1]; decide), if_neg (by rw [h2]; decide)] at h; exact h)
            clear HF HK h1 h2
            cases lvq with
            | true =>
              have HV2 := Lib.hid (show V = max (FW FR) mk.leave from HV.out)
              clear HV
              go_wp2_with (go_at_call 30; (with_reducible refine (HLV.out _).mono ?_); rintro e w6 ⟨rfl, rfl⟩)
              go_ret
              exact ⟨ret_int (by rw [HV2.out, HFE.out]; try omega), HB4.out⟩
            | false =>
              have HV2 := Lib.hid (show V = FW FR from HV.out)
              clear HV
              go_wp2_with (go_at_call 30; (with_reducible refine (HLV.out _).mono ?_); rintro e w6 ⟨rfl, rfl⟩)
              go_ret
              exact ⟨ret_int (by rw [HV2.out, HFE.out]; try omega), HB4.out⟩
  · have hrl : (RD.length : Int) ≤ 3 := by have := HRL.out; omega
    have HVC := Lib.hid hvc
    have hfl := fold_le HS.out RD mk.first (by have := HS.out.fst; omega)
    have hfr : (FR : Int) ≤ 501 := by rw [HFR.out]; omega
    clear hvc HV2 hfl
    go_wp2_with fail
    go_loop [22, 5] (fun iv kv => ∃ j : Nat, j ≤ RD.length ∧ iv = .int .i64 (j : Int) ∧ kv = .int .i64 (((RD.take j).foldl (behindW mk) mk.first : Nat) : Int)) (fun iv _ => RD.length - (intOf iv).toNat)
    case atStart => exact ⟨0, Nat.zero_le _, rfl, rfl⟩
    case round =>
      obtain ⟨j, hj, rfl, rfl⟩ := hrel
      by_cases hlt : j < RD.length
      · have hjI : (j : Int) < (RD.length : Int) := by omega
        have c := HVC.out j hlt
        have HJ := Lib.hid hlt
        have HT : Hid ((RD.take (j + 1)).foldl (behindW mk) mk.first = behindW mk ((RD.take j).foldl (behindW mk) mk.first) RD[j]) := Lib.hid (by rw [List.take_succ_eq_append_getElem hlt, List.foldl_append]; rfl)
        have hr64 := HRS.out _ (List.getElem_mem hlt)
        have hq := fold_le HS.out (RD.take j) mk.first (by have := HS.out.fst; omega)
        generalize RD[j] = r at *
        generalize (RD.take j).foldl (behindW mk) mk.first = q at *
        have hqI : (q : Int) ≤ 501 := by omega
        have hwr := HS.out.wr r
        have hnn := HM2.out.wr.none (r := r) (by omega)
        have hss := fun x => HM2.out.wr.some (r := r) (q := x) (by omega)
        clear hq hlt hr64
        cases hw : mk.write r with
        | none =>
          have HE := Lib.hid (show behindW mk q r = q by unfold behindW; rw [hw])
          have hlk := hnn hw
          clear hw hnn hss hwr
          go_wp2
          go_round
          case rel => exact ⟨j + 1, HJ.out, by go_num, by rw [HT.out, HE.out]⟩
          case measure => have := HJ.out; go_light; simp [intOf]; omega
        | some x =>
          have HE := Lib.hid (show behindW mk q r = max q (x + 1) by unfold behindW; rw [hw])
          have hlk := hss x hw
          have hx : (x : Int) ≤ 500 := by have := hwr x hw; omega
          clear hw hnn hss hwr
          go_wp2
          go_round
          case rel => exact ⟨j + 1, HJ.out, by go_num, by rw [HT.out, HE.out]; try (congr 1; try omega)⟩
          case measure => have := HJ.out; go_light; simp [intOf]; omega
      · obtain rfl : j = RD.length := by omega
        have hd : decide ((RD.length : Int) < (RD.length : Int)) = false := decide_eq_false (by omega)
        rw [List.take_length, ← HFR.out]
        go_wp2_with fail
        refine (HWR.out _).mono ?_
        rintro e w4 ⟨rfl, hb4⟩
        have HM4 := Lib.hid (HM2.out.below hb4)
        have HX4 := Lib.hid ((hb4.block _ (Array.getElem?_eq_some_iff.1 HX2.out).1).trans HX2.out)
        have HB4 := Lib.hid (bwT HB2.out hb4)
        clear hb4 HM2 HX2 HB2 c0 c1 c2 c3 c4 c5 m0 m1 m2 m3 m4 m5 m6 mf HWR
        obtain ⟨c0, c1, c2, c3, c4, c5⟩ := six_cells HX4.out
        obtain ⟨⟨m0, m1, m2, m3, m4, m5, m6⟩, mf⟩ := seven_cells HM4.out.blk
        have hstI : (mk.stN : Int) ≤ 500 := by have := HS.out.st; omega
        have hldI : (mk.ldN : Int) ≤ 500 := by have := HS.out.ld; omega
        have hlvI : (mk.leave : Int) ≤ 500 := by have := HS.out.lv; omega
        by_cases hw0 : wd = 0
        · have HFE : Hid (FW FR = FR) := Lib.hid (by rw [HFW.out, if_pos hw0])
          subst hw0
          clear HFW
          rcases HK.out with ⟨rfl, rfl⟩ | ⟨rfl, rfl⟩ | ⟨h1, h2, ⟨n1, n2⟩, ⟨n3, n4⟩⟩
          · have HV : Hid (V = max (FW FR) mk.stN) := Lib.hid (by have h := HF.out; rw [if_pos (show loadK OpK.load = true from rfl)] at h; exact h)
            clear HF HK
            go_wp2
            go_ret
            exact ⟨ret_int (by rw [HV.out, HFE.out]; try omega), HB4.out⟩
          · have HV : Hid (V = max (max (FW FR) mk.stN) (mk.ldN - 1)) := Lib.hid (by have h := HF.out; rw [if_neg (show ¬ loadK OpK.store = true by decide), if_pos (show storeK OpK.store = true from rfl)] at h; exact h)
            clear HF HK
            go_wp2
            go_region
            all_goals go_wp2
            all_goals (go_ret; exact ⟨ret_int (by rw [HV.out, HFE.out]; try omega), HB4.out.drew⟩)
          · have HV : Hid (V = if lvq = true then max (FW FR) mk.leave else FW FR) := Lib.hid (by have h := HF.out; rw [if_neg (by rw [h1]; decide), if_neg (by rw [h2]; decide)] at h; exact h)
            clear HF HK h1 h2
            cases lvq with
            | true =>
              have HV2 := Lib.hid (show V = max (FW FR) mk.leave from HV.out)
              clear HV
              go_wp2_with (go_at_call 30; (with_reducible refine (HLV.out _).mono ?_); rintro e w6 ⟨rfl, rfl⟩)
              go_ret
              exact ⟨ret_int (by rw [HV2.out, HFE.out]; try omega), HB4.out⟩
            | false =>
              have HV2 := Lib.hid (show V = FW FR from HV.out)
              clear HV
              go_wp2_with (go_at_call 30; (with_reducible refine (HLV.out _).mono ?_); rintro e w6 ⟨rfl, rfl⟩)
              go_ret
              exact ⟨ret_int (by rw [HV2.out, HFE.out]; try omega), HB4.out⟩
        · have hwne : ((wd : Int) != 0) = true := by simpa using hw0
          have hwn := HM4.out.wr.none (r := wd) (by omega)
          have hws := fun x => HM4.out.wr.some (r := wd) (q := x) (by omega)
          have hrn := HM4.out.rd.none (r := wd) (by omega)
          have hrs := fun x => HM4.out.rd.some (r := wd) (q := x) (by omega)
          have hbw := HS.out.wr wd
          have hbr := HS.out.rd wd
          have hfw := HFW.out FR
          rw [if_neg hw0] at hfw
          clear HFW hw0
          cases hq1 : mk.write wd with
          | none =>
            have hl1 := hwn hq1
            cases hq2 : mk.read wd with
            | none =>
              have hl2 := hrn hq2
              have HFE : Hid (FW FR = FR) := Lib.hid (by rw [hfw, hq2]; unfold behindW; rw [hq1])
              clear hq1 hq2 hfw hwn hws hrn hrs hbw hbr
              rcases HK.out with ⟨rfl, rfl⟩ | ⟨rfl, rfl⟩ | ⟨h1, h2, ⟨n1, n2⟩, ⟨n3, n4⟩⟩
              · have HV : Hid (V = max (FW FR) mk.stN) := Lib.hid (by have h := HF.out; rw [if_pos (show loadK OpK.load = true from rfl)] at h; exact h)
                clear HF HK
                go_wp2
                go_ret
                exact ⟨ret_int (by rw [HV.out, HFE.out]; try omega), HB4.out⟩
              · have HV : Hid (V = max (max (FW FR) mk.stN) (mk.ldN - 1)) := Lib.hid (by have h := HF.out; rw [if_neg (show ¬ loadK OpK.store = true by decide), if_pos (show storeK OpK.store = true from rfl)] at h; exact h)
                clear HF HK
                go_wp2
                go_region
                all_goals go_wp2
                all_goals (go_ret; exact ⟨ret_int (by rw [HV.out, HFE.out]; try omega), HB4.out.drew⟩)
              · have HV : Hid (V = if lvq = true then max (FW FR) mk.leave else FW FR) := Lib.hid (by have h := HF.out; rw [if_neg (by rw [h1]; decide), if_neg (by rw [h2]; decide)] at h; exact h)
                clear HF HK h1 h2
                cases lvq with
                | true =>
                  have HV2 := Lib.hid (show V = max (FW FR) mk.leave from HV.out)
                  clear HV
                  go_wp2_with (go_at_call 30; (with_reducible refine (HLV.out _).mono ?_); rintro e w6 ⟨rfl, rfl⟩)
                  go_ret
                  exact ⟨ret_int (by rw [HV2.out, HFE.out]; try omega), HB4.out⟩
                | false =>
                  have HV2 := Lib.hid (show V = FW FR from HV.out)
                  clear HV
                  go_wp2_with (go_at_call 30; (with_reducible refine (HLV.out _).mono ?_); rintro e w6 ⟨rfl, rfl⟩)
                  go_ret
                  exact ⟨ret_int (by rw [HV2.out, HFE.out]; try omega), HB4.out⟩
            | some y =>
              have hl2 := hrs y hq2
              have hy := hbr y hq2
              have hyI : (y : Int) ≤ 500 := by omega
              have HFE : Hid (FW FR = max FR y) := Lib.hid (by rw [hfw, hq2]; unfold behindW; rw [hq1])
              clear hq1 hq2 hfw hwn hws hrn hrs hbw hbr hy
              rcases HK.out with ⟨rfl, rfl⟩ | ⟨rfl, rfl⟩ | ⟨h1, h2, ⟨n1, n2⟩, ⟨n3, n4⟩⟩
              · have HV : Hid (V = max (FW FR) mk.stN) := Lib.hid (by have h := HF.out; rw [if_pos (show loadK OpK.load = true from rfl)] at h; exact h)
                clear HF HK
                go_wp2
                go_ret
                exact ⟨ret_int (by rw [HV.out, HFE.out]; try omega), HB4.out⟩
              · have HV : Hid (V = max (max (FW FR) mk.stN) (mk.ldN - 1)) := Lib.hid (by have h := HF.out; rw [if_neg (show ¬ loadK OpK.store = true by decide), if_pos (show storeK OpK.store = true from rfl)] at h; exact h)
                clear HF HK
                go_wp2
                go_region
                all_goals go_wp2
                all_goals (go_ret; exact ⟨ret_int (by rw [HV.out, HFE.out]; try omega), HB4.out.drew⟩)
              · have HV : Hid (V = if lvq = true then max (FW FR) mk.leave else FW FR) := Lib.hid (by have h := HF.out; rw [if_neg (by rw [h1]; decide), if_neg (by rw [h2]; decide)] at h; exact h)
                clear HF HK h1 h2
                cases lvq with
                | true =>
                  have HV2 := Lib.hid (show V = max (FW FR) mk.leave from HV.out)
                  clear HV
                  go_wp2_with (go_at_call 30; (with_reducible refine (HLV.out _).mono ?_); rintro e w6 ⟨rfl, rfl⟩)
                  go_ret
                  exact ⟨ret_int (by rw [HV2.out, HFE.out]; try omega), HB4.out⟩
                | false =>
                  have HV2 := Lib.hid (show V = FW FR from HV.out)
                  clear HV
                  go_wp2_with (go_at_call 30; (with_reducible refine (HLV.out _).mono ?_); rintro e w6 ⟨rfl, rfl⟩)
                  go_ret
                  exact ⟨ret_int (by rw [HV2.out, HFE.out]; try omega), HB4.out⟩
          | some x =>
            have hl1 := hws x hq1
            have hx := hbw x hq1
            have hxI : (x : Int) ≤ 500 := by omega
            cases hq2 : mk.read wd with
            | none =>
              have hl2 := hrn hq2
              have HFE : Hid (FW FR = max FR (x + 1)) := Lib.hid (by rw [hfw, hq2]; unfold behindW; rw [hq1])
              clear hq1 hq2 hfw hwn hws hrn hrs hbw hbr hx
              rcases HK.out with ⟨rfl, rfl⟩ | ⟨rfl, rfl⟩ | ⟨h1, h2, ⟨n1, n2⟩, ⟨n3, n4⟩⟩
              · have HV : Hid (V = max (FW FR) mk.stN) := Lib.hid (by have h := HF.out; rw [if_pos (show loadK OpK.load = true from rfl)] at h; exact h)
                clear HF HK
                go_wp2
                go_ret
                exact ⟨ret_int (by rw [HV.out, HFE.out]; try omega), HB4.out⟩
              · have HV : Hid (V = max (max (FW FR) mk.stN) (mk.ldN - 1)) := Lib.hid (by have h := HF.out; rw [if_neg (show ¬ loadK OpK.store = true by decide), if_pos (show storeK OpK.store = true from rfl)] at h; exact h)
                clear HF HK
                go_wp2
                go_region
                all_goals go_wp2
                all_goals (go_ret; exact ⟨ret_int (by rw [HV.out, HFE.out]; try omega), HB4.out.drew⟩)
              · have HV : Hid (V = if lvq = true then max (FW FR) mk.leave else FW FR) := Lib.hid (by have h := HF.out; rw [if_neg (by rw [h1]; decide), if_neg (by rw [h2]; decide)] at h; exact h)
                clear HF HK h1 h2
                cases lvq with
                | true =>
                  have HV2 := Lib.hid (show V = max (FW FR) mk.leave from HV.out)
                  clear HV
                  go_wp2_with (go_at_call 30; (with_reducible refine (HLV.out _).mono ?_); rintro e w6 ⟨rfl, rfl⟩)
                  go_ret
                  exact ⟨ret_int (by rw [HV2.out, HFE.out]; try omega), HB4.out⟩
                | false =>
                  have HV2 := Lib.hid (show V = FW FR from HV.out)
                  clear HV
                  go_wp2_with (go_at_call 30; (with_reducible refine (HLV.out _).mono ?_); rintro e w6 ⟨rfl, rfl⟩)
                  go_ret
                  exact ⟨ret_int (by rw [HV2.out, HFE.out]; try omega), HB4.out⟩
            | some y =>
              have hl2 := hrs y hq2
              have hy := hbr y hq2
              have hyI : (y : Int) ≤ 500 := by omega
              have HFE : Hid (FW FR = max (max FR (x + 1)) y) := Lib.hid (by rw [hfw, hq2]; unfold behindW; rw [hq1])
              clear hq1 hq2 hfw hwn hws hrn hrs hbw hbr hx hy
              rcases HK.out with ⟨rfl, rfl⟩ | ⟨rfl, rfl⟩ | ⟨h1, h2, ⟨n1, n2⟩, ⟨n3, n4⟩⟩
              · have HV : Hid (V = max (FW FR) mk.stN) := Lib.hid (by have h := HF.out; rw [if_pos (show loadK OpK.load = true from rfl)] at h; exact h)
                clear HF HK
                go_wp2
                go_ret
                exact ⟨ret_int (by rw [HV.out, HFE.out]; try omega), HB4.out⟩
              · have HV : Hid (V = max (max (FW FR) mk.stN) (mk.ldN - 1)) := Lib.hid (by have h := HF.out; rw [if_neg (show ¬ loadK OpK.store = true by decide), if_pos (show storeK OpK.store = true from rfl)] at h; exact h)
                clear HF HK
                go_wp2
                go_region
                all_goals go_wp2
                all_goals (go_ret; exact ⟨ret_int (by rw [HV.out, HFE.out]; try omega), HB4.out.drew⟩)
              · have HV : Hid (V = if lvq = true then max (FW FR) mk.leave else FW FR) := Lib.hid (by have h := HF.out; rw [if_neg (by rw [h1]; decide), if_neg (by rw [h2]; decide)] at h; exact h)
                clear HF HK h1 h2
                cases lvq with
                | true =>
                  have HV2 := Lib.hid (show V = max (FW FR) mk.leave from HV.out)
                  clear HV
                  go_wp2_with (go_at_call 30; (with_reducible refine (HLV.out _).mono ?_); rintro e w6 ⟨rfl, rfl⟩)
                  go_ret
                  exact ⟨ret_int (by rw [HV2.out, HFE.out]; try omega), HB4.out⟩
                | false =>
                  have HV2 := Lib.hid (show V = FW FR from HV.out)
                  clear HV
                  go_wp2_with (go_at_call 30; (with_reducible refine (HLV.out _).mono ?_); rintro e w6 ⟨rfl, rfl⟩)
                  go_ret
                  exact ⟨ret_int (by rw [HV2.out, HFE.out]; try omega), HB4.out⟩
end Go.Proofs.YtlnefmgiiogcmaaGreatDoor
namespace Go.Proofs.YtlnefmgiiogcmaaGreatDoor
open Go.RowKit
section
variable {w : World} {B mb bw br N : Nat} {mk : Mk} {rv : Value} {vs : List Value}
theorem MkW.at (h : MkW w B mb mk rv vs bw br N) (hn : ∀ r ∈ mk.rows, r ≠ []) {k : Nat} (hk : k < mk.rows.length) :
    ∃ gr capr g cap, rv = .slice (some ⟨gr, 0, none⟩) mk.rows.length capr ∧ w.cell? ⟨gr, k, none⟩ = some (.slice (some ⟨g, 0, none⟩) (mk.rows.getD k []).length cap) ∧ OpsAt w g (mk.rows.getD k []) ∧ gr < w.heap.size := by
  have hkv : k < vs.length := by rw [h.len]; exact hk
  have hg : mk.rows.getD k [] = mk.rows[k] := by rw [List.getD_eq_getElem?_getD, List.getElem?_eq_getElem hk]; rfl
  obtain ⟨g, cap, hv, _, _, hat⟩ := opsAt_own (h.row k hkv hk) (by
    have := hn _ (List.getElem_mem hk)
    exact List.length_pos_iff.2 this)
  obtain ⟨hl, h' | ⟨gr, capr, cur, hrv, _, hh, _⟩⟩ := id h.rows
  · exact absurd h'.2 (by omega)
  · refine ⟨gr, capr, g, cap, by rw [hrv, h.len], ?_, by rw [hg]; exact hat, (Array.getElem?_eq_some_iff.1 hh).1⟩
    have := h.rows.cells (show rv.ownBlock = some gr by rw [hrv]; rfl) k vs[k] (List.getElem?_eq_getElem hkv)
    rw [addr_add] at this
    rw [this, hv, hg]
end
theorem index0 (a b c : Value) (w : World) : (Instr.index 152 (.agg #[a, b, c]) (.int .i64 0)).run Tryz.prog w = .ok a w := by kernel_rfl
theorem index1 (a b c : Value) (w : World) : (Instr.index 152 (.agg #[a, b, c]) (.int .i64 1)).run Tryz.prog w = .ok b w := by kernel_rfl
theorem index2 (a b c : Value) (w : World) : (Instr.index 152 (.agg #[a, b, c]) (.int .i64 2)).run Tryz.prog w = .ok c w := by kernel_rfl
theorem ret_bool {a b : Bool} (h : a = b) : Ending.returned (.bool a) = .returned (.bool b) := by rw [h]
theorem fitsM_end {rows : List (List OpN)} {k : Nat} {o : OpN} (h : rows.length ≤ k) : fitsM rows k o = true := by
  unfold fitsM
  rw [decide_eq_true h]
  rfl
theorem fitsM_in {rows : List (List OpN)} {k : Nat} {o : OpN} (h : k < rows.length) : fitsM rows k o = (decide ((rows.getD k []).length < 4) && decide (countC (classO o) (rows.getD k []) < roomC (classO o))) := by
  unfold fitsM
  rw [decide_eq_false (by omega), Bool.false_or]
set_option maxHeartbeats 16000000 in
set_option maxRecDepth 100000 in
theorem fits_at {w : World} {B mb bw br N : Nat} {mk : Mk} {rv : Value} {vs : List Value} (h : MkW w B mb mk rv vs bw br N) (hs : MkS mk) (hn : ∀ r ∈ mk.rows, r ≠ [] ∧ r.length ≤ 100) {q : Nat} (hq : q ≤ 1000) {k : OpK} {d a n : Nat} {b im : Int} :
    Calls Tryz.prog 53 #[.pointer (some ⟨mb, 0, none⟩), .int .i64 (q : Int), .agg #[.string k.lit, .int .i64 (d : Int), .int .i64 (a : Int), .int .i64 b, .int .u32 im, .int .i64 (n : Int)]] w fun e w' => OneP w (.bool (fitsM mk.rows q ⟨k, d, a, b, im, n⟩)) e w' := by
  have hb' := (Below.refl w.heap.size w).alloc (Nat.le_refl _) (.cells #[.string k.lit, .int .i64 (d : Int), .int .i64 (a : Int), .int .i64 b, .int .u32 im, .int .i64 (n : Int)] 61)
  have HM := Lib.hid (h.below hb')
  have HB := Lib.hid hb'
  have HX := Lib.hid (heap_alloc_new w (.cells #[.string k.lit, .int .i64 (d : Int), .int .i64 (a : Int), .int .i64 b, .int .u32 im, .int .i64 (n : Int)] 61))
  have hlI : (mk.rows.length : Int) ≤ 500 := by have := hs.len; omega
  have hqI : (q : Int) ≤ 1000 := by omega
  have HCL := Lib.hid (fun wx => planClass_at (d := d) (a := a) (n := n) (b := b) (im := im) k wx)
  have HC3 := Lib.hid (classO_3 ⟨k, d, a, b, im, n⟩)
  obtain ⟨V, hV⟩ : ∃ V, fitsM mk.rows q ⟨k, d, a, b, im, n⟩ = V := ⟨_, rfl⟩
  rw [hV]
  by_cases hin : mk.rows.length ≤ q
  · rw [fitsM_end hin] at hV
    subst hV
    have hrl : ∃ a2 c2, rv = .slice a2 mk.rows.length c2 := by
      rcases Joins.ownsRow_forms h.rows with ⟨h1, h2⟩ | ⟨g, cap, hv⟩
      · exact ⟨none, 0, by rw [h1]; rw [h.len] at h2; rw [h2]⟩
      · exact ⟨_, cap, by rw [hv, h.len]⟩
    obtain ⟨a2, c2, rfl⟩ := hrl
    have hinI : (mk.rows.length : Int) ≤ (q : Int) := by omega
    clear h hs hn hq hb' hin
    generalize k.lit = kt at *
    go_enter Tryz.func53, Tryz.ntmps53
    obtain ⟨⟨m0, m1, m2, m3, m4, m5, m6⟩, mf⟩ := seven_cells HM.out.blk
    go_wp2
    go_ret
    exact ⟨rfl, HB.out⟩
  · rw [fitsM_in (by omega)] at hV
    have hqlt : q < mk.rows.length := by omega
    have hgd : mk.rows.getD q [] ∈ mk.rows := getD_mem hqlt
    have hrn := hn _ hgd
    have HAT := Lib.hid (fun (W : World) (hb : Below w.heap.size w W) => (h.below hb).at (fun r hr => (hn r hr).1) hqlt)
    obtain ⟨gr, capr, g, cap, hrv, hcell, hops, hgr⟩ := h.at (fun r hr => (hn r hr).1) hqlt
    have HOPS := Lib.hid hops
    have HCELL := Lib.hid (And.intro hcell hgr)
    subst hrv
    have hqI2 : (q : Int) < (mk.rows.length : Int) := by omega
    have HRN := Lib.hid hrn
    have hrI : ((mk.rows.getD q []).length : Int) ≤ 100 := by have := hrn.2; omega
    have HCNT := Lib.hid (fun c => countC_le c (mk.rows.getD q []))
    clear h hs hn hq hb' hin hqlt hgd hrn hcell hops hgr HAT
    have HVV := Lib.hid hV
    clear hV
    generalize mk.rows.getD q [] = R at *
    generalize classO ⟨k, d, a, b, im, n⟩ = cl at *
    generalize k.lit = kt at *
    go_enter Tryz.func53, Tryz.ntmps53
    obtain ⟨⟨m0, m1, m2, m3, m4, m5, m6⟩, mf⟩ := seven_cells HM.out.blk
    obtain ⟨c0, c1, c2, c3, c4, c5⟩ := six_cells HX.out
    go_wp2_with fail
    generalize w.alloc _ = W at *
    refine (HCL.out _).mono ?_
    rintro e w4 ⟨rfl, hb4⟩
    have HB4 := Lib.hid (bwT HB.out hb4)
    have HM4 := Lib.hid (HM.out.below hb4)
    have HO4 := Lib.hid (HOPS.out.below HB4.out HOPS.out.lt)
    have hrow := (HB4.out.cell (p := ⟨gr, q, none⟩) HCELL.out.2).trans HCELL.out.1
    clear hb4 HM HX HB HCL c0 c1 c2 c3 c4 c5 m0 m1 m2 m3 m4 m5 m6 mf
    obtain ⟨⟨m0, m1, m2, m3, m4, m5, m6⟩, mf⟩ := seven_cells HM4.out.blk
    clear m1 m2 m3 m4 m5 m6
    have hl1 : gr < w4.heap.size := World.block_lt_of_cell? _ _ hrow
    have hl2 := HM4.out.lt
    have HKS : Hid (∀ w', Below w4.heap.size w4 w' → w'.cell? ⟨mb, 0, none⟩ = some (.slice (some ⟨gr, 0, none⟩) mk.rows.length capr) ∧ w'.cell? ⟨gr, q, none⟩ = some (.slice (some ⟨g, 0, none⟩) R.length cap) ∧ Below w4.heap.size w4 w') := Lib.hid (fun w' hb => ⟨(hb.cell (p := ⟨mb, 0, none⟩) hl2).trans m0, (hb.cell (p := ⟨gr, q, none⟩) hl1).trans hrow, hb⟩)
    have HOK : Hid (∀ W, Below w4.heap.size w4 W → OpsAt W g R) := Lib.hid (fun W hb => HO4.out.below hb HO4.out.lt)
    clear hl1 hl2
    by_cases h4 : R.length < 4
    · have h4I : (R.length : Int) < 4 := by omega
      have hc3 := HC3.out
      rw [decide_eq_true h4, Bool.true_and] at HVV
      have HCC := Lib.hid (fun (W : World) (hW : OpsAt W g R) => planCounts (cap := cap) hW HRN.out.2)
      have h0I : (countC 0 R : Int) ≤ 100 := by have := HCNT.out 0; have := HRN.out.2; omega
      have h1I : (countC 1 R : Int) ≤ 100 := by have := HCNT.out 1; have := HRN.out.2; omega
      have h2I : (countC 2 R : Int) ≤ 100 := by have := HCNT.out 2; have := HRN.out.2; omega
      clear h4 HC3
      unfold CountsP at HCC
      rcases hc3 with rfl | rfl | rfl
      · have HR2 : Hid (∀ wx, Calls Tryz.prog 84 #[.int .i64 0] wx fun e w' => e = .returned (.int .i64 3) ∧ wx = w') := Lib.hid (planRoom 0 (by decide))
        have HV2 : Hid (decide ((countC 0 R : Int) < 3) = V) := Lib.hid (by rw [← HVV.out]; exact decide_eq_decide.2 ⟨fun h => by show countC 0 R < 3; omega, fun h => by have h' : countC 0 R < 3 := h; omega⟩)
        have hix := index0 (.int .i64 (countC 0 R : Int)) (.int .i64 (countC 1 R : Int)) (.int .i64 (countC 2 R : Int))
        clear HVV
        generalize countC 0 R = n0 at *
        generalize countC 1 R = n1 at *
        generalize countC 2 R = n2 at *
        go_wp2_with fail
        go_region_held3 (fun w' => w'.cell? ⟨mb, 0, none⟩ = some (.slice (some ⟨gr, 0, none⟩) mk.rows.length capr) ∧ w'.cell? ⟨gr, q, none⟩ = some (.slice (some ⟨g, 0, none⟩) R.length cap) ∧ Below w4.heap.size w4 w')
          ((go_split_ands; refine HKS.out _ ?_; first | assumption | exact (Below.refl _ _).drew | (refine bwT ?_ hb5; assumption) | exact bwT (Below.refl _ _).drew hb5))
          (first | (go_at_call 83; refine (HCC.out _ (HOK.out _ ?_)).mono ?_; (go_split_ands; assumption); rintro e w5 ⟨rfl, hb5⟩) | (go_at_call 84; refine (HR2.out _).mono ?_; rintro e w6 ⟨rfl, rfl⟩))
        all_goals
          have HB5 := Lib.hid (bwT HB4.out (bwT (Below.refl _ _).drew hb5))
          clear hb5
          go_split_ands
          go_wp2
          go_ret
          exact ⟨ret_bool HV2.out, HB5.out⟩
      · have HR2 : Hid (∀ wx, Calls Tryz.prog 84 #[.int .i64 1] wx fun e w' => e = .returned (.int .i64 1) ∧ wx = w') := Lib.hid (planRoom 1 (by decide))
        have HV2 : Hid (decide ((countC 1 R : Int) < 1) = V) := Lib.hid (by rw [← HVV.out]; exact decide_eq_decide.2 ⟨fun h => by show countC 1 R < 1; omega, fun h => by have h' : countC 1 R < 1 := h; omega⟩)
        have hix := index1 (.int .i64 (countC 0 R : Int)) (.int .i64 (countC 1 R : Int)) (.int .i64 (countC 2 R : Int))
        clear HVV
        generalize countC 0 R = n0 at *
        generalize countC 1 R = n1 at *
        generalize countC 2 R = n2 at *
        go_wp2_with fail
        go_region_held3 (fun w' => w'.cell? ⟨mb, 0, none⟩ = some (.slice (some ⟨gr, 0, none⟩) mk.rows.length capr) ∧ w'.cell? ⟨gr, q, none⟩ = some (.slice (some ⟨g, 0, none⟩) R.length cap) ∧ Below w4.heap.size w4 w')
          ((go_split_ands; refine HKS.out _ ?_; first | assumption | exact (Below.refl _ _).drew | (refine bwT ?_ hb5; assumption) | exact bwT (Below.refl _ _).drew hb5))
          (first | (go_at_call 83; refine (HCC.out _ (HOK.out _ ?_)).mono ?_; (go_split_ands; assumption); rintro e w5 ⟨rfl, hb5⟩) | (go_at_call 84; refine (HR2.out _).mono ?_; rintro e w6 ⟨rfl, rfl⟩))
        all_goals
          have HB5 := Lib.hid (bwT HB4.out (bwT (Below.refl _ _).drew hb5))
          clear hb5
          go_split_ands
          go_wp2
          go_ret
          exact ⟨ret_bool HV2.out, HB5.out⟩
      · have HR2 : Hid (∀ wx, Calls Tryz.prog 84 #[.int .i64 2] wx fun e w' => e = .returned (.int .i64 1) ∧ wx = w') := Lib.hid (planRoom 2 (by decide))
        have HV2 : Hid (decide ((countC 2 R : Int) < 1) = V) := Lib.hid (by rw [← HVV.out]; exact decide_eq_decide.2 ⟨fun h => by show countC 2 R < 1; omega, fun h => by have h' : countC 2 R < 1 := h; omega⟩)
        have hix := index2 (.int .i64 (countC 0 R : Int)) (.int .i64 (countC 1 R : Int)) (.int .i64 (countC 2 R : Int))
        clear HVV
        generalize countC 0 R = n0 at *
        generalize countC 1 R = n1 at *
        generalize countC 2 R = n2 at *
        go_wp2_with fail
        go_region_held3 (fun w' => w'.cell? ⟨mb, 0, none⟩ = some (.slice (some ⟨gr, 0, none⟩) mk.rows.length capr) ∧ w'.cell? ⟨gr, q, none⟩ = some (.slice (some ⟨g, 0, none⟩) R.length cap) ∧ Below w4.heap.size w4 w')
          ((go_split_ands; refine HKS.out _ ?_; first | assumption | exact (Below.refl _ _).drew | (refine bwT ?_ hb5; assumption) | exact bwT (Below.refl _ _).drew hb5))
          (first | (go_at_call 83; refine (HCC.out _ (HOK.out _ ?_)).mono ?_; (go_split_ands; assumption); rintro e w5 ⟨rfl, hb5⟩) | (go_at_call 84; refine (HR2.out _).mono ?_; rintro e w6 ⟨rfl, rfl⟩))
        all_goals
          have HB5 := Lib.hid (bwT HB4.out (bwT (Below.refl _ _).drew hb5))
          clear hb5
          go_split_ands
          go_wp2
          go_ret
          exact ⟨ret_bool HV2.out, HB5.out⟩
    · have h4I : ¬ (R.length : Int) < 4 := by omega
      have h4D : decide ((R.length : Int) < 4) = false := decide_eq_false h4I
      rw [decide_eq_false h4, Bool.false_and] at HVV
      clear h4
      go_wp2_with fail
      go_quiet (fail)
      go_wp2
      go_ret
      exact ⟨by rw [← HVV.out]; rfl, blw_drewN HB4.out _⟩
end Go.Proofs.YtlnefmgiiogcmaaGreatDoor
namespace Go.Proofs.YtlnefmgiiogcmaaGreatDoor
open Go.RowKit
theorem own_set1 {w : World} {base : Nat} {e : TypeId} {rv : Value} {n gr capr k : Nat} {xs : List Value} (h : w.ownsRow base e 1 rv n xs) (hrv : rv = .slice (some ⟨gr, 0, none⟩) n capr) (hk : k < n) (v : Value) : (w.setCell ⟨gr, k, none⟩ v).ownsRow base e 1 rv n (xs.set k v) := by
  obtain ⟨hl, h' | ⟨g, cap, cur, hv, hb, hh, hc, hm, hs, ht⟩⟩ := h
  · rw [hrv] at h'
    cases h'.1
  · have hgg : gr = g := by
      rw [hrv] at hv
      simp only [Value.slice.injEq, Option.some.injEq, Addr.mk.injEq] at hv
      exact hv.1.1
    subst hgg
    refine ⟨by rw [List.length_set]; exact hl, Or.inr ⟨gr, cap, cur.setIfInBounds k v, hv, hb, Joins.block_setCell hh v, hc, hm, by simpa using hs, ?_⟩⟩
    rw [Array.toList_setIfInBounds, ← ht, List.take_set]
def setB (m : Mk) (rows : List (List OpN)) : Mk := { m with rows := rows }
section
variable {w : World} {B mb bw br N : Nat} {mk : Mk} {rv : Value} {vs : List Value}
theorem MkW.mb_rows (h : MkW w B mb mk rv vs bw br N) : some mb ≠ rv.ownBlock := own_ne h.rows h.blk (by decide)
theorem MkW.mb_row (h : MkW w B mb mk rv vs bw br N) {j : Nat} (h1 : j < vs.length) : some mb ≠ vs[j].ownBlock := own_ne (h.row j h1 (by rw [← h.len]; exact h1)) h.blk (by decide)
theorem map_not_cells {b : Nat} {f : Nat → Option Nat} {n : Nat} (h : NatM w b f n) {k : Nat} {cs : Array Value} {t : TypeId} {fr : Nat × Nat} (hk : w.heap[k]? = some (.cells cs t fr)) : b ≠ k := by
  intro e
  subst e
  obtain ⟨D, ⟨es, cl, hD, _⟩, _⟩ := h.ex
  rw [hD] at hk
  cases hk
theorem map_not_own {b : Nat} {f : Nat → Option Nat} {n : Nat} (h : NatM w b f n) {e : TypeId} {sz : Nat} {v : Value} {m : Nat} {xs : List Value} (ho : w.ownsRow B e sz v m xs) : some b ≠ v.ownBlock := by
  intro hb
  obtain ⟨hl, h' | ⟨g, cap, cur, hv, _, hh, _⟩⟩ := ho
  · rw [h'.1] at hb
    cases hb
  · rw [hv] at hb
    simp only [Value.ownBlock, Option.some.injEq] at hb
    exact map_not_cells h hh hb
theorem own_lt {e : TypeId} {sz : Nat} {v : Value} {m : Nat} {xs : List Value} (ho : w.ownsRow B e sz v m xs) {g : Nat} (hg : v.ownBlock = some g) : g < w.heap.size := by
  obtain ⟨hl, h' | ⟨g2, cap, cur, hv, _, hh, _⟩⟩ := ho
  · rw [h'.1] at hg
    cases hg
  · rw [hv] at hg
    simp only [Value.ownBlock, Option.some.injEq] at hg
    subst hg
    exact (Array.getElem?_eq_some_iff.1 hh).1
theorem own_apart {e1 e2 : TypeId} {s1 s2 : Nat} {v1 v2 : Value} {n1 n2 : Nat} {x1 x2 : List Value} (h1 : w.ownsRow B e1 s1 v1 n1 x1) (h2 : w.ownsRow B e2 s2 v2 n2 x2) (hne : e1 ≠ e2) {g : Nat} (hg : v1.ownBlock = some g) : some g ≠ v2.ownBlock := by
  obtain ⟨hl, h' | ⟨g2, cap, cur, hv, _, hh, _⟩⟩ := h1
  · rw [h'.1] at hg
    cases hg
  · rw [hv] at hg
    simp only [Value.ownBlock, Option.some.injEq] at hg
    subst hg
    exact own_ne h2 hh (fun e => hne e.symm)
theorem MkW.grow {w5 : World} {rv' : Value} (h : MkW w B mb mk rv vs bw br N) (hown : w5.ownsRow B 32 1 rv' (vs.length + 1) (vs ++ [.slice none 0 0])) (hg : w.grownBy w5 rv.ownBlock) :
    MkW (w5.setCell ⟨mb, 0, none⟩ rv') B mb (setB mk (mk.rows ++ [[]])) rv' (vs ++ [.slice none 0 0]) bw br N := by
  have hb5 : w5.heap[mb]? = w.heap[mb]? := hg.block mb h.lt h.mb_rows
  have hblk := Joins.block_setCell (i := 0) (hb5.trans h.blk) rv'
  have hother : ∀ k, k ≠ mb → (w5.setCell ⟨mb, 0, none⟩ rv').heap[k]? = w5.heap[k]? := fun k hk => setCell_other w5 mb 0 k rv' hk
  refine ⟨hblk, ?_, ?_, ?_, ?_, ?_, ?_, h.ne, h.new⟩
  · have := own_block (w' := w5.setCell ⟨mb, 0, none⟩ rv') hown (fun g hg2 => hother g (fun e => own_ne hown (hb5.trans h.blk) (by decide) (by rw [hg2, e])))
    rw [List.length_append]
    exact this
  · show (vs ++ [Value.slice none 0 0]).length = (mk.rows ++ [[]]).length
    simp [h.len]
  · intro j h1 h2
    have h2' : j < (mk.rows ++ [[]]).length := h2
    show World.ownsRow _ B _ 6 _ ((mk.rows ++ [[]])[j]'h2').length (((mk.rows ++ [[]])[j]'h2').flatMap opC)
    by_cases e : j < vs.length
    · have e2 : j < mk.rows.length := by rw [← h.len]; exact e
      rw [List.getElem_append_left e, List.getElem_append_left e2]
      refine own_block (h.row j e e2) (fun g hg2 => (hother g (fun e3 => h.mb_row e (by rw [hg2, e3]))).trans (hg.block g (own_lt (h.row j e e2) hg2) (own_apart (h.row j e e2) h.rows (by decide) hg2)))
    · have e3 : j = vs.length := by simp at h1; omega
      subst e3
      rw [List.getElem_append_right (Nat.le_refl _), List.getElem_append_right (by rw [h.len]; exact Nat.le_refl _)]
      simp only [h.len, Nat.sub_self, List.getElem_cons_zero]
      exact ⟨by simp, Or.inl ⟨rfl, rfl⟩⟩
  · intro i j hi hj g hij hgi hgj
    by_cases e : i < vs.length
    · by_cases e2 : j < vs.length
      · rw [List.getElem_append_left e] at hgi
        rw [List.getElem_append_left e2] at hgj
        exact h.apart i j e e2 g hij hgi hgj
      · rw [List.getElem_append_right (by omega)] at hgj
        have e3 : j = vs.length := by simp at hj; omega
        subst e3
        simp [Value.ownBlock] at hgj
    · rw [List.getElem_append_right (by omega)] at hgi
      have e3 : i = vs.length := by simp at hi; omega
      subst e3
      simp [Value.ownBlock] at hgi
  · exact h.wr.of_block ((hother bw (map_not_cells h.wr h.blk)).trans (hg.block bw h.wr.lt (map_not_own h.wr h.rows)))
  · exact h.rd.of_block ((hother br (map_not_cells h.rd h.blk)).trans (hg.block br h.rd.lt (map_not_own h.rd h.rows)))
theorem MkW.put {w6 : World} {gr capr k g cap : Nat} {o : OpN} (h : MkW w B mb mk rv vs bw br N) (hrv : rv = .slice (some ⟨gr, 0, none⟩) vs.length capr) (hk : k < vs.length) (hk2 : k < mk.rows.length)
    (hown : w6.ownsRow B 61 6 (.slice (some ⟨g, 0, none⟩) (mk.rows[k].length + 1) cap) (mk.rows[k].length + 1) (mk.rows[k].flatMap opC ++ opC o)) (hg : w.grownBy w6 vs[k].ownBlock) (hat : vs[k].ownBlock = some g ∨ w.heap.size ≤ g) :
    MkW (w6.setCell ⟨gr, k, none⟩ (.slice (some ⟨g, 0, none⟩) (mk.rows[k].length + 1) cap)) B mb (setB mk (mk.rows.set k (mk.rows[k] ++ [o]))) rv (vs.set k (.slice (some ⟨g, 0, none⟩) (mk.rows[k].length + 1) cap)) bw br N := by
  have hrb : rv.ownBlock = some gr := by rw [hrv]; rfl
  obtain ⟨hl0, h' | ⟨g0, cap0, cur, hv0, _, hh0, _⟩⟩ := id h.rows
  · rw [hrv] at h'
    cases h'.1
  have hgr0 : gr = g0 := by
    rw [hrv] at hv0
    simp only [Value.slice.injEq, Option.some.injEq, Addr.mk.injEq] at hv0
    exact hv0.1.1
  subst hgr0
  have hgrlt := (Array.getElem?_eq_some_iff.1 hh0).1
  have hgr6 : w6.heap[gr]? = w.heap[gr]? := hg.block gr hgrlt (own_apart h.rows (h.row k hk hk2) (by decide) hrb)
  have hrows6 := own_block (w' := w6) h.rows (fun g' hg' => by rw [hrb] at hg'; cases hg'; exact hgr6)
  have hmb6 : w6.heap[mb]? = w.heap[mb]? := hg.block mb h.lt (h.mb_row hk)
  have hmg : mb ≠ gr := fun e => h.mb_rows (by rw [hrb, e])
  have hgg : g ≠ gr := by
    rintro rfl
    obtain ⟨_, h2 | ⟨g2, cap2, cur2, hv2, _, hh2, _⟩⟩ := hown
    · cases h2.1
    · simp only [Value.slice.injEq, Option.some.injEq, Addr.mk.injEq] at hv2
      obtain ⟨⟨rfl, _⟩, _⟩ := hv2
      rw [hgr6, hh0] at hh2
      simp only [Option.some.injEq, Obj.cells.injEq] at hh2
      exact absurd hh2.2.1 (by decide)
  have hother : ∀ q, q ≠ gr → (w6.setCell ⟨gr, k, none⟩ (.slice (some ⟨g, 0, none⟩) (mk.rows[k].length + 1) cap)).heap[q]? = w6.heap[q]? := fun q hq => setCell_other w6 gr k q _ hq
  refine ⟨(hother mb hmg).trans (hmb6.trans h.blk), ?_, ?_, ?_, ?_, ?_, ?_, h.ne, h.new⟩
  · rw [List.length_set]
    exact own_set1 hrows6 hrv hk _
  · show (vs.set k _).length = (mk.rows.set k _).length
    rw [List.length_set, List.length_set, h.len]
  · intro j h1 h2
    have h2' : j < (mk.rows.set k (mk.rows[k] ++ [o])).length := h2
    show World.ownsRow _ B _ 6 _ ((mk.rows.set k (mk.rows[k] ++ [o]))[j]'h2').length (((mk.rows.set k (mk.rows[k] ++ [o]))[j]'h2').flatMap opC)
    by_cases e : k = j
    · subst e
      rw [List.getElem_set_self, List.getElem_set_self, List.length_append, List.flatMap_append]
      refine own_block (by simpa using hown) (fun g' hg' => hother g' (fun e => ?_))
      simp only [Value.ownBlock, Option.some.injEq] at hg'
      exact hgg (hg'.trans e)
    · have e1 : j < vs.length := by rw [List.length_set] at h1; exact h1
      have e2 : j < mk.rows.length := by rw [← h.len]; exact e1
      rw [List.getElem_set_ne e, List.getElem_set_ne e]
      refine own_block (h.row j e1 e2) (fun g' hg' => (hother g' (fun e3 => ?_)).trans (hg.block g' (own_lt (h.row j e1 e2) hg') (fun e4 => h.apart j k e1 hk g' (fun e5 => e e5.symm) hg' e4.symm)))
      exact own_apart (h.row j e1 e2) h.rows (by decide) hg' (by rw [hrb, e3])
  · intro i j hi hj g' hij hgi hgj
    rw [List.length_set] at hi hj
    by_cases ei : k = i
    · subst ei
      rw [List.getElem_set_self] at hgi
      rw [List.getElem_set_ne hij] at hgj
      simp only [Value.ownBlock, Option.some.injEq] at hgi
      subst hgi
      rcases hat with ha | ha
      · exact h.apart k j hi hj g hij ha hgj
      · have := own_lt (h.row j hj (by rw [← h.len]; exact hj)) hgj
        omega
    · rw [List.getElem_set_ne ei] at hgi
      by_cases ej : k = j
      · subst ej
        rw [List.getElem_set_self] at hgj
        simp only [Value.ownBlock, Option.some.injEq] at hgj
        subst hgj
        rcases hat with ha | ha
        · exact h.apart i k hi hj g hij hgi ha
        · have := own_lt (h.row i hi (by rw [← h.len]; exact hi)) hgi
          omega
      · rw [List.getElem_set_ne ej] at hgj
        exact h.apart i j hi hj g' hij hgi hgj
  · exact h.wr.of_block ((hother bw (map_not_cells h.wr hh0)).trans (hg.block bw h.wr.lt (map_not_own h.wr (h.row k hk hk2))))
  · exact h.rd.of_block ((hother br (map_not_cells h.rd hh0)).trans (hg.block br h.rd.lt (map_not_own h.rd (h.row k hk hk2))))
theorem MkW.field (h : MkW w B mb mk rv vs bw br N) (mk' : Mk) (hr : mk'.rows = mk.rows) (hw : mk'.write = mk.write) (hd : mk'.read = mk.read) {w' : World} (hb : ∀ k, k ≠ mb → w'.heap[k]? = w.heap[k]?)
    (hblk : w'.heap[mb]? = some (.cells #[rv, .map (some bw), .map (some br), .int .i64 ((mk'.stN : Int) - 1), .int .i64 ((mk'.ldN : Int) - 1), .int .i64 (mk'.leave : Int), .int .i64 (mk'.first : Int)] 79 (0, 0))) : MkW w' B mb mk' rv vs bw br N where
  blk := hblk
  rows := own_block h.rows (fun g hg => hb g (fun e => h.mb_rows (by rw [hg, e])))
  len := by rw [hr]; exact h.len
  row j h1 h2 := by
    have h2' : j < mk.rows.length := by rw [← hr]; exact h2
    have e : mk'.rows[j] = mk.rows[j] := by simp only [hr]
    rw [e]
    exact own_block (h.row j h1 h2') (fun g hg => hb g (fun e => h.mb_row h1 (by rw [hg, e])))
  apart := h.apart
  wr := by rw [hw]; exact h.wr.of_block (hb bw (map_not_cells h.wr h.blk))
  rd := by rw [hd]; exact h.rd.of_block (hb br (map_not_cells h.rd h.blk))
  ne := h.ne
  new := h.new
theorem MkW.reads (h : MkW w B mb mk rv vs bw br N) {w' : World} {f : Nat → Option Nat} {n : Nat} (hn : N ≤ n) (hm : NatM w' br f n) (hk : Kept (fun k => k = br) w w') : MkW w' B mb { mk with read := f } rv vs bw br n where
  blk := (hk.same mb h.lt (fun e => map_not_cells h.rd h.blk e.symm)).trans h.blk
  rows := own_block h.rows (fun g hg => hk.same g (own_lt h.rows hg) (fun e => map_not_own h.rd h.rows (by rw [hg, e])))
  len := h.len
  row j h1 h2 := own_block (h.row j h1 h2) (fun g hg => hk.same g (own_lt (h.row j h1 h2) hg) (fun e => map_not_own h.rd (h.row j h1 h2) (by rw [hg, e])))
  apart := h.apart
  wr := (h.wr.of_block (hk.same bw h.wr.lt h.ne)).mono hn
  rd := hm
  ne := h.ne
  new := h.new
theorem MkW.writes (h : MkW w B mb mk rv vs bw br N) {w' : World} {f : Nat → Option Nat} {n : Nat} (hn : N ≤ n) (hm : NatM w' bw f n) (hk : Kept (fun k => k = bw) w w') : MkW w' B mb { mk with write := f } rv vs bw br n where
  blk := (hk.same mb h.lt (fun e => map_not_cells h.wr h.blk e.symm)).trans h.blk
  rows := own_block h.rows (fun g hg => hk.same g (own_lt h.rows hg) (fun e => map_not_own h.wr h.rows (by rw [hg, e])))
  len := h.len
  row j h1 h2 := own_block (h.row j h1 h2) (fun g hg => hk.same g (own_lt (h.row j h1 h2) hg) (fun e => map_not_own h.wr (h.row j h1 h2) (by rw [hg, e])))
  apart := h.apart
  wr := hm
  rd := (h.rd.of_block (hk.same br h.rd.lt (fun e => h.ne e.symm))).mono hn
  ne := h.ne
  new := h.new
end
theorem natF_put (f : Nat → Option Nat) (r q : Nat) : updF (natF f) (r : Int) (some (q : Int)) = natF (fun x => if x = r then some q else f x) := by
  funext x
  unfold updF natF
  by_cases e : x = (r : Int)
  · subst e
    rw [if_pos rfl, if_neg (by omega), Int.toNat_natCast]
    show some (q : Int) = Option.map _ (if r = r then some q else f r)
    rw [if_pos rfl]
    rfl
  · rw [if_neg e]
    by_cases e2 : x < 0
    · rw [if_pos e2, if_pos e2]
    · rw [if_neg e2, if_neg e2]
      show _ = Option.map _ (if x.toNat = r then some q else f x.toNat)
      rw [if_neg (by omega)]
end Go.Proofs.YtlnefmgiiogcmaaGreatDoor
namespace Go.Proofs.YtlnefmgiiogcmaaGreatDoor
open Go.RowKit
set_option maxHeartbeats 8000000 in
set_option maxRecDepth 100000 in
theorem fold_any {w : World} {g cap : Nat} {ops : List OpN} (h : OpsAt w g ops) (h0 : 0 < ops.length) (hl : ops.length ≤ 100) (hc : ∀ o ∈ ops, opG o ∧ Reg32 o.imm) :
    Calls Tryz.prog 24 #[.slice (some ⟨g, 0, none⟩) ops.length cap] w fun e w' => FoldP w (foldZ noF ops) e w' := by
  obtain ⟨z, hz⟩ : ∃ z, foldZ noF ops = z := ⟨_, rfl⟩
  have HZL : Hid (z.length = ops.length) := Lib.hid (by rw [← hz, foldZ_len])
  have HZG := Lib.hid (fun (j : Nat) (hj : j < ops.length) (h2 : j < z.length) => (show z[j]'h2 = foldF (factsAt z j) (ops[j]'hj) by subst hz; exact foldZ_get hj h2))
  have HZI : Hid (∀ x ∈ z, opG x ∧ Reg32 x.imm) := by rw [← hz]; exact Lib.hid (foldZ_imm ops noF noF_ok hc)
  have HFO : Hid (∀ j, FactsOK (factsAt z j)) := Lib.hid (fun j => foldl_ok _ _ noF_ok (fun o ho => (HZI.out o (List.mem_of_mem_take ho)).2))
  rw [hz]
  clear hz
  have hb0 := (Below.refl w.heap.size w).alloc (Nat.le_refl _) (.map #[] 0)
  have HB0 := Lib.hid hb0
  have HO := Lib.hid (h.below hb0 h.lt)
  have HC := Lib.hid hc
  have H0 := Lib.hid h0
  have HL := Lib.hid hl
  have HM0 : Hid (FactsM (w.alloc (.map #[] 0)) w.heap.size noF 0) := Lib.hid (by
    have := MapF.made (P := Tryz.prog) (k := 3) (e := 22) (q := some .u32) w
    unfold FactsM
    rw [show factP noF = fun _ => none from factP_nil]
    exact this)
  have HSZ : Hid ((w.alloc (.map #[] 0)).heap.size = w.heap.size + 1) := Lib.hid (by simp)
  have hlI : (ops.length : Int) ≤ 100 := by omega
  clear h hc h0 hl hb0
  have hmm := @run_makeMap Tryz.prog
  go_enter Tryz.func24, Tryz.ntmps24
  go_wp2_with fail
  generalize w.alloc (.map #[] 0) = W0 at *
  refine (cloneOps HO.out H0.out (by have := HL.out; omega)).mono ?_
  intro e w1 h1
  obtain ⟨g', cap', rfl, hg', hc', hw', hb'⟩ := h1
  have HCAP := Lib.hid hc'
  have HG' := Lib.hid hg'
  have HF0 : Hid (FoldS w w1 w.heap.size g' ops z 0) := Lib.hid {
    fm := HM0.out.of_block (hb'.block _ HM0.out.lt)
    ow := by
      show OpsW w1 g' (z.take 0 ++ ops.drop 0)
      exact hw'
    bel := HB0.out.trans (hb'.mono HB0.out.size)
    n1 := Nat.le_refl _
    n2 := by have := HSZ.out; omega
    ne := by have := HSZ.out; omega }
  clear hc' hg' hw' hb' HO HM0
  go_wp2_with fail
  go_loopw [16] (fun i wr => ∃ j : Nat, j ≤ ops.length ∧ i = .int .i64 (j : Int) ∧ Hid (FoldS w wr w.heap.size g' ops z j)) (fun i _ => ops.length - (intOf i).toNat)
  case atStart => exact ⟨0, Nat.zero_le _, rfl, HF0⟩
  case round =>
    obtain ⟨j, hj, rfl, HF⟩ := hrel
    clear HF0
    by_cases hlt : j < ops.length
    · have hjI : (j : Int) < (ops.length : Int) := by omega
      have hj0 : (0 : Int) ≤ (j : Int) := by omega
      have HJ := Lib.hid hlt
      have hml := mixL_len HZL.out (Nat.le_of_lt hlt)
      obtain ⟨c0, c1, c2, c3, c4, c5⟩ := HF.out.ow.is.cells j (by rw [hml]; exact hlt)
      rw [mixL_at HZL.out hlt] at c0 c1 c2 c3 c4 c5
      obtain ⟨hog, hoi⟩ := HC.out _ (List.getElem_mem hlt)
      have HOG := Lib.hid (And.intro hog hoi)
      have HZ := Lib.hid (HZG.out j hlt (by rw [HZL.out]; exact hlt))
      have HX := Lib.hid (HZI.out _ (List.getElem_mem (show j < z.length by rw [HZL.out]; exact hlt)))
      have HPUT := Lib.hid (fun (W : World) (hW : OpsW W g' (mixL ops z j)) => (show OpsW (W.setCells g' (j * 6) (opC (z[j]'(by rw [HZL.out]; exact hlt)))) g' (mixL ops z (j + 1)) by
        have := hW.put (by rw [hml]; exact hlt) (z[j]'(by rw [HZL.out]; exact hlt))
        rw [mixL_set HZL.out hlt] at this
        exact this))
      have HSAM : Hid ((z[j]'(by rw [HZL.out]; exact hlt)) = ops[j] → mixL ops z (j + 1) = mixL ops z j) := Lib.hid (fun e => by
        rw [← mixL_set HZL.out hlt, e]
        have h1 := mixL_at HZL.out hlt (by rw [hml]; exact hlt)
        refine List.ext_getElem? (fun i => ?_)
        rw [List.getElem?_set]
        by_cases ei : j = i
        · subst ei
          rw [if_pos rfl, if_pos (by rw [hml]; exact hlt), List.getElem?_eq_getElem (by rw [hml]; exact hlt), h1]
          rfl
        · rw [if_neg ei])
      have HNX := Lib.hid (fun (wa W : World) => foldS_next (w := w) (wr := wa) (W := W) (mb := w.heap.size) (g := g') HZL.out hlt)
      have HML := Lib.hid hml
      have HML1 := Lib.hid (mixL_len HZL.out hlt)
      have HXJ : Hid (∀ h2, (mixL ops z (j + 1))[j]'h2 = (z[j]'(by rw [HZL.out]; exact hlt))) := Lib.hid (fun h2 => by
        have : (mixL ops z (j + 1))[j]? = some (z[j]'(by rw [HZL.out]; exact hlt)) := by
          rw [← mixL_set HZL.out hlt, List.getElem?_set, if_pos rfl, if_pos (by rw [hml]; exact hlt)]
        rw [List.getElem?_eq_getElem h2] at this
        exact Option.some.inj this)
      clear hml hog hoi
      generalize (z[j]'(by rw [HZL.out]; exact hlt)) = x at *
      generalize ops[j] = o at *
      obtain ⟨k, d, a, b, im, m⟩ := o
      have hix := opG_small HOG.out.1
      simp only at hix
      simp only [lit_text] at c0 c1 c2 c3 c4 c5
      obtain ⟨hd64, ha64, hb64⟩ := hix
      have hdI : (d : Int) < 64 := by omega
      have haI : (a : Int) < 64 := by omega
      clear hd64 ha64 hlt
      obtain ⟨p, hp, hp0, hp1⟩ : ∃ p : Int, b.tmod 64 = p ∧ -64 < p ∧ p < 64 := by
        rcases hb64 with ⟨h0, h1⟩ | ⟨rfl, _⟩ | ⟨rfl, _⟩
        · exact ⟨b, Int.tmod_eq_of_lt h0 h1, by omega, by omega⟩
        · exact ⟨-1, by decide, by decide, by decide⟩
        · exact ⟨-2, by decide, by decide, by decide⟩
      clear hb64
      go_wp2_with fail
      generalize hX9 : wr.alloc (.cells #[.string k.lit, .int .i64 (d : Int), .int .i64 (a : Int), .int .i64 b, .int .u32 im, .int .i64 (m : Int)] 61) = X9
      have hx0 := (Below.refl wr.heap.size wr).alloc (Nat.le_refl _) (.cells #[.string k.lit, .int .i64 (d : Int), .int .i64 (a : Int), .int .i64 b, .int .u32 im, .int .i64 (m : Int)] 61)
      have hx1 := heap_alloc_new wr (.cells #[.string k.lit, .int .i64 (d : Int), .int .i64 (a : Int), .int .i64 b, .int .u32 im, .int .i64 (m : Int)] 61)
      rw [hX9] at hx0 hx1
      clear hX9
      have HS9 := Lib.hid (foldS_same HF.out hx0)
      have HBX9 := Lib.hid hx1
      obtain ⟨e0, e1, e2, e3, e4, e5⟩ := six_cells hx1
      clear hx0 hx1 c0 c1 c2 c3 c4 c5
      obtain ⟨v1, hv1⟩ : ∃ v, (ofI (factsAt z j) (a : Int)).getD 0 = v := ⟨_, rfl⟩
      obtain ⟨q1, hq1⟩ : ∃ v, (ofI (factsAt z j) (a : Int)).isSome = v := ⟨_, rfl⟩
      obtain ⟨v2, hv2⟩ : ∃ v, (ofI (factsAt z j) (b.tmod 64)).getD 0 = v := ⟨_, rfl⟩
      obtain ⟨q2, hq2⟩ : ∃ v, (ofI (factsAt z j) (b.tmod 64)).isSome = v := ⟨_, rfl⟩
      have HA := Lib.hid (factsOf HS9.out.fm (p := (a : Int)) (by omega) (by omega))
      have HB := Lib.hid (factsOf HS9.out.fm (p := b.tmod 64) (by rw [hp]; omega) (by rw [hp]; omega))
      rw [hv1, hq1] at HA
      rw [hv2, hq2] at HB
      have HV1 := Lib.hid hv1
      have HQ1 := Lib.hid hq1
      have HV2 := Lib.hid hv2
      have HQ2 := Lib.hid hq2
      have HP := Lib.hid hp
      clear hv1 hq1 hv2 hq2 hp
      have HFB := Lib.hid (foldable_at (k := k) (d := d) (a := a) (m := m) (b1 := b) (im := im) HS9.out.fm HOG.out.1)
      obtain ⟨q, hq⟩ : ∃ q, foldableF (factsAt z j) ⟨k, d, a, b, im, m⟩ = q := ⟨_, rfl⟩
      rw [hq] at HFB
      have HQ := Lib.hid hq
      clear hq
      have HSM : Hid (q = true → (∀ wx, Calls Tryz.prog 48 #[.string k.lit, .int .u32 v1, .int .u32 v2, .int .u32 0] wx fun e w' => e = .returned (.int .u32 x.imm) ∧ w' = wx) ∧ x = ⟨.set, d, 0, 0, x.imm, m⟩) := by
        refine Lib.hid (fun e => ?_)
        have hq := HQ.out
        rw [e] at hq
        have hx := HZ.out
        unfold foldF at hx
        rw [if_pos hq] at hx
        simp only at hx
        have hs : isSumK k = true := by
          unfold foldableF at hq
          simp only [Bool.and_eq_true] at hq
          exact hq.1.1
        obtain ⟨-, -, -, b0, b1, -⟩ := sumK_G (o := ⟨k, d, a, b, im, m⟩) hs HOG.out.1
        simp only at b0 b1
        have w1 : (ofF (factsAt z j) a).getD 0 = v1 := by rw [← ofI_nat]; exact HV1.out
        have w2 : (ofF (factsAt z j) b.toNat).getD 0 = v2 := by
          rw [← ofI_nat, Int.toNat_of_nonneg b0, ← HV2.out, Int.tmod_eq_of_lt b0 b1]
        rw [w1, w2] at hx
        have hv := irValue_sum k hs v1 v2 0 (by rw [← w1]; exact ofF_reg (HFO.out j) _) (by rw [← w2]; exact ofF_reg (HFO.out j) _)
        rw [show valK k v1 v2 0 = sumZ k v1 v2 by revert hs; cases k <;> simp [isSumK, valK]] at hv
        rw [hx]
        exact ⟨fun wx => (hv wx).mono (fun _ _ h => ⟨h.1, h.2.symm⟩), rfl⟩
      have HCP : Hid (q = false → k = .copy → q1 = true → x = ⟨.set, d, 0, 0, v1, m⟩) := by
        refine Lib.hid (fun e ek eq => ?_)
        have hx := HZ.out
        unfold foldF at hx
        have e2 : (ofF (factsAt z j) a).isSome = true := by rw [← ofI_nat]; exact HQ1.out.trans eq
        rw [if_neg (by rw [HQ.out, e]; decide), if_pos ⟨ek, e2⟩] at hx
        simp only at hx
        rw [hx, ← ofI_nat, HV1.out]
      have HNO : Hid (q = false → (k = .copy → q1 = false) → x = ⟨k, d, a, b, im, m⟩) := by
        refine Lib.hid (fun e ek => ?_)
        rw [HZ.out]
        exact fold_same (HQ.out.trans e) (fun e2 => by rw [← ofI_nat]; exact HQ1.out.trans (ek e2))
      have HKT : Hid (k = .copy → k.lit = ⟨#[99, 111, 112, 121]⟩) := Lib.hid (fun e => by rw [e]; rfl)
      have HKN : Hid (¬ k = .copy → (k.lit.toList == [99, 111, 112, 121]) = false ∧ ¬ k.lit.toList = [99, 111, 112, 121]) := Lib.hid lit_ne_copy
      have HLO := Lib.hid (fun (W : World) (hW : FactsM W w.heap.size (factsAt z j) j) => factsLearn_at (k := k) (d := d) (a := a) (m := m) (b1 := b) (im := im) hW (by have := HL.out; have := HJ.out; omega) (by omega) HOG.out.2)
      have HLS := Lib.hid (fun (W : World) (v : Int) (hv : Reg32 v) (hW : FactsM W w.heap.size (factsAt z j) j) => factsLearn_at (k := .set) (d := d) (a := 0) (m := m) (b1 := 0) (im := v) hW (by have := HL.out; have := HJ.out; omega) (by omega) hv)
      clear HV1 HQ1 HV2 HQ2 HQ HZ HFO
      generalize hkt : k.lit = kt at HSM HKT HKN HLO HFB HBX9 e0 ⊢
      have HKQ := Lib.hid hkt
      clear hkt
      refine HA.out.mono ?_
      rintro e w3 ⟨rfl, rfl⟩
      go_wp2_with fail
      refine HB.out.mono ?_
      rintro e w4 ⟨rfl, rfl⟩
      go_wp2_with fail
      refine HFB.out.mono ?_
      rintro e w5 ⟨rfl, hb5⟩
      have HS5 := Lib.hid (foldS_same HS9.out hb5)
      have HBX5 := Lib.hid ((hb5.block _ (Array.getElem?_eq_some_iff.1 HBX9.out).1).trans HBX9.out)
      clear hb5 HA HB HFB e0 e1 e2 e3 e4 e5 HS9 HBX9
      obtain ⟨e0, e1, e2, e3, e4, e5⟩ := six_cells HBX5.out
      cases q with
      | true =>
        obtain ⟨hV, hX⟩ := HSM.out rfl
        obtain ⟨zv, hzv⟩ : ∃ v, x.imm = v := ⟨_, rfl⟩
        rw [hzv] at hV hX
        have HV := Lib.hid hV
        clear hV HSM HCP HNO HSAM hzv
        subst hX
        go_wp2_with fail
        refine wp_region_still_tail 13 (by kernel_rfl) (by kernel_rfl) ?_
        simp only [List.take_succ_cons, List.take_zero, List.drop_succ_cons, List.drop_zero]
        repeat still_step
        still_call (HV.out _)
        repeat still_step
        try refine wpStill_nil ?_
        change wpList _ _ _ _ _ w5.drew
        have HS6 := Lib.hid (foldS_same HS5.out (Below.refl _ w5).drew)
        generalize w5.drew = W6 at *
        refine wpList_store_mid rfl 61 (.tmp 52) (.tmp 51) rfl g' (j * 6) #[.string ⟨#[115, 101, 116]⟩, .int .i64 (d : Int), .int .i64 0, .int .i64 0, .int .u32 zv, .int .i64 (m : Int)] rfl rfl (HS6.out.ow.there (by rw [HML.out]; exact HJ.out)) (by rw [Tryz.infoOz]; rfl) (set_one _ _ _ _ _ _) ?_
        have hk7 := Kept.setCells g' (#[.string ⟨#[115, 101, 116]⟩, .int .i64 (d : Int), .int .i64 0, .int .i64 0, .int .u32 zv, .int .i64 (m : Int)] : Array Value).toList W6 (j * 6)
        have how7 : OpsW (W6.setCells g' (j * 6) (#[.string ⟨#[115, 101, 116]⟩, .int .i64 (d : Int), .int .i64 0, .int .i64 0, .int .u32 zv, .int .i64 (m : Int)] : Array Value).toList) g' (mixL ops z (j + 1)) := HPUT.out W6 HS6.out.ow
        generalize W6.setCells g' (j * 6) (#[.string ⟨#[115, 101, 116]⟩, .int .i64 (d : Int), .int .i64 0, .int .i64 0, .int .u32 zv, .int .i64 (m : Int)] : Array Value).toList = W7 at *
        have HOW7 := Lib.hid how7
        have HM7 := Lib.hid (HS6.out.fm.of_block (hk7.same _ HS6.out.fm.lt HS6.out.ne))
        have HB7 := Lib.hid (HS6.out.bel.trans (hk7.to_below HS6.out.bel.size (fun k hk e => by have := HS6.out.n2; omega)))
        have HN7 := Lib.hid (And.intro HS6.out.n1 (And.intro HS6.out.n2 HS6.out.ne))
        clear hk7 how7 HS6 HPUT e0 e1 e2 e3 e4 e5
        obtain ⟨c0, c1, c2, c3, c4, c5⟩ := HOW7.out.is.cells j (by rw [HML1.out]; exact HJ.out)
        rw [HXJ.out] at c0 c1 c2 c3 c4 c5
        have k0 : W7.cell? ⟨g', j * 6, none⟩ = some (.string ⟨#[115, 101, 116]⟩) := c0
        have k1 : W7.cell? ⟨g', j * 6 + 1, none⟩ = some (.int .i64 (d : Int)) := c1
        have k2 : W7.cell? ⟨g', j * 6 + 2, none⟩ = some (.int .i64 0) := c2
        have k3 : W7.cell? ⟨g', j * 6 + 3, none⟩ = some (.int .i64 0) := c3
        have k4 : W7.cell? ⟨g', j * 6 + 4, none⟩ = some (.int .u32 zv) := c4
        have k5 : W7.cell? ⟨g', j * 6 + 5, none⟩ = some (.int .i64 (m : Int)) := c5
        clear c0 c1 c2 c3 c4 c5 HXJ
        go_wp2_with fail
        refine (HLS.out W7 zv HX.out.2 HM7.out).mono ?_
        rintro e w8 ⟨rfl, hm8, hk8⟩
        have HS8 := Lib.hid (HNX.out W7 w8 HOW7.out HB7.out HN7.out.1 HN7.out.2.1 HN7.out.2.2 hm8 hk8)
        clear hm8 hk8 k0 k1 k2 k3 k4 k5 HNX
        go_wp2_with fail
        go_roundw
        case rel => exact ⟨j + 1, HJ.out, by go_num, HS8⟩
        case measure => have := HJ.out; go_light; simp [intOf]; omega
      | false =>
        by_cases hcp : k = .copy
        · obtain rfl : kt = ⟨#[99, 111, 112, 121]⟩ := HKT.out hcp
          cases q1 with
          | true =>
            obtain rfl := HCP.out rfl hcp rfl
            clear HSM HCP HNO HSAM HKT HKN
            obtain ⟨c0, c1, c2, c3, c4, c5⟩ := HS5.out.ow.is.cells j (by rw [HML.out]; exact HJ.out)
            have f0 := HS5.out.ow.free (j * 6)
            have f1 := HS5.out.ow.free (j * 6 + 1)
            have f2 := HS5.out.ow.free (j * 6 + 2)
            have f3 := HS5.out.ow.free (j * 6 + 3)
            have f4 := HS5.out.ow.free (j * 6 + 4)
            have f5 := HS5.out.ow.free (j * 6 + 5)
            have how7 := HPUT.out w5 HS5.out.ow
            have hk7 := Kept.setCells g' [.string ⟨#[115, 101, 116]⟩, .int .i64 (d : Int), .int .i64 0, .int .i64 0, .int .u32 v1, .int .i64 (m : Int)] w5 (j * 6)
            have hm7 := HS5.out.fm.of_block (hk7.same _ HS5.out.fm.lt HS5.out.ne)
            have hb7 := HS5.out.bel.trans (hk7.to_below HS5.out.bel.size (fun k hk e => by have := HS5.out.n2; omega))
            have HN7 := Lib.hid (And.intro HS5.out.n1 (And.intro HS5.out.n2 HS5.out.ne))
            have HOW7 := Lib.hid how7
            have HM7 := Lib.hid hm7
            have HB7 := Lib.hid hb7
            clear hk7 how7 hm7 hb7 HPUT HXJ
            go_wp2_with fail
            refine (HLS.out _ v1 HX.out.2 HM7.out).mono ?_
            rintro e w8 ⟨rfl, hm8, hk8⟩
            have HS8 := Lib.hid (HNX.out _ w8 HOW7.out HB7.out HN7.out.1 HN7.out.2.1 HN7.out.2.2 hm8 hk8)
            clear hm8 hk8 HNX c0 c1 c2 c3 c4 c5 f0 f1 f2 f3 f4 f5 e0 e1 e2 e3 e4 e5
            go_wp2_with fail
            go_roundw
            case rel => exact ⟨j + 1, HJ.out, by go_num, HS8⟩
            case measure => have := HJ.out; go_light; simp [intOf]; omega
          | false =>
            have hX := HNO.out rfl (fun _ => rfl)
            have HKE : Hid (k.lit = ⟨#[99, 111, 112, 121]⟩) := Lib.hid (by rw [hcp]; rfl)
            clear HSM HCP HNO HKT HKN hcp
            subst hX
            have hmx := HSAM.out rfl
            have HOW7 := Lib.hid (show OpsW w5 g' (mixL ops z (j + 1)) by rw [hmx]; exact HS5.out.ow)
            have HN7 := Lib.hid (And.intro HS5.out.n1 (And.intro HS5.out.n2 HS5.out.ne))
            have HM7 := Lib.hid HS5.out.fm
            have HB7 := Lib.hid HS5.out.bel
            clear hmx HPUT
            obtain ⟨c0, c1, c2, c3, c4, c5⟩ := HOW7.out.is.cells j (by rw [HML1.out]; exact HJ.out)
            rw [HXJ.out] at c0 c1 c2 c3 c4 c5
            simp only [lit_text] at c0 c1 c2 c3 c4 c5
            rw [HKE.out] at c0
            clear HXJ
            go_wp2_with fail
            refine (HLO.out w5 HM7.out).mono ?_
            rintro e w8 ⟨rfl, hm8, hk8⟩
            have HS8 := Lib.hid (HNX.out w5 w8 HOW7.out HB7.out HN7.out.1 HN7.out.2.1 HN7.out.2.2 hm8 hk8)
            clear hm8 hk8 c0 c1 c2 c3 c4 c5 HNX e0 e1 e2 e3 e4 e5
            go_wp2_with fail
            go_roundw
            case rel => exact ⟨j + 1, HJ.out, by go_num, HS8⟩
            case measure => have := HJ.out; go_light; simp [intOf]; omega
        · have hX := HNO.out rfl (fun e => absurd e hcp)
          obtain ⟨n1, n2⟩ := HKN.out hcp
          have HKE := HKQ
          clear HSM HCP HNO HKT HKN hcp
          subst hX
          have hmx := HSAM.out rfl
          have HOW7 := Lib.hid (show OpsW w5 g' (mixL ops z (j + 1)) by rw [hmx]; exact HS5.out.ow)
          have HN7 := Lib.hid (And.intro HS5.out.n1 (And.intro HS5.out.n2 HS5.out.ne))
          have HM7 := Lib.hid HS5.out.fm
          have HB7 := Lib.hid HS5.out.bel
          clear hmx HPUT
          obtain ⟨c0, c1, c2, c3, c4, c5⟩ := HOW7.out.is.cells j (by rw [HML1.out]; exact HJ.out)
          rw [HXJ.out] at c0 c1 c2 c3 c4 c5
          simp only [lit_text] at c0 c1 c2 c3 c4 c5
          rw [HKE.out] at c0
          clear HXJ
          go_wp2_with fail
          refine (HLO.out w5 HM7.out).mono ?_
          rintro e w8 ⟨rfl, hm8, hk8⟩
          have HS8 := Lib.hid (HNX.out w5 w8 HOW7.out HB7.out HN7.out.1 HN7.out.2.1 HN7.out.2.2 hm8 hk8)
          clear hm8 hk8 c0 c1 c2 c3 c4 c5 HNX e0 e1 e2 e3 e4 e5
          go_wp2_with fail
          go_roundw
          case rel => exact ⟨j + 1, HJ.out, by go_num, HS8⟩
          case measure => have := HJ.out; go_light; simp [intOf]; omega
    · obtain rfl : j = ops.length := by omega
      have hd : decide ((ops.length : Int) < (ops.length : Int)) = false := decide_eq_false (by omega)
      go_wp2_with fail
      go_ret
      have hml : mixL ops z ops.length = z := by
        unfold mixL
        rw [List.drop_length, List.append_nil, List.take_of_length_le (by rw [HZL.out]; exact Nat.le_refl _)]
      have how := HF.out.ow
      rw [hml] at how
      exact ⟨g', cap', by rw [HZL.out]; rfl, HF.out.n2, by rw [HZL.out]; exact HCAP.out, how, HF.out.bel⟩
end Go.Proofs.YtlnefmgiiogcmaaGreatDoor
