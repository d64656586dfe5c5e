/- The walks of law3's coded and of an empty region. The walk of opt's dead. The walk of opt's sweep. The walk of opt's Opt at a code that is well. A state is equal to itself. The walk of changelinglaw1.AlikeWords at two memories that are alike. Conditions: as each theorem states. -/
import Derived.Test.YtlnefmgiiogcmaaGreatDoorQ43
import Derived.Test.YtlnefmgiiogcmaaGreatDoorQ18
import Derived.Test.YtlnefmgiiogcmaaGreatDoorQ27
import Derived.Deep.RegionHeld3
import Derived.Test.YtlnefmgiiogcmaaGreatDoorQ30
import Derived.Test.YtlnefmgiiogcmaaGreatDoorQ28
import Derived.Test.YtlnefmgiiogcmaaGreatDoorQ12
import Derived.Test.YtlnefmgiiogcmaaGreatDoorQ42
import Derived.Test.YtlnefmgiiogcmaaGreatDoorQ20
import Derived.ChangeKeysEq
import Derived.Test.YtlnefmgiiogcmaaGreatDoorQ13
set_option linter.unusedVariables false
set_option linter.unusedSimpArgs false
namespace Go.Proofs.YtlnefmgiiogcmaaGreatDoor
open Go.RowKit
theorem right_nil {w : World} {pc : Int} {vp : Value} {ad : Nat → Addr} (hS : Sents w ad) :
    Calls Tryz.prog 16 #[.agg #[.int .u32 pc, .slice none 0 0, vp]] w fun e w' => e = .returned (errI (ad 5)) ∧ Below w.heap.size w w' := by
  have hBox := (Below.refl w.heap.size w).alloc (Nat.le_refl _) (.cells #[.int .u32 pc, .slice none 0 0, vp] 41)
  have HBOX := Lib.hid hBox
  have cN := (hS.below hBox).c5
  have hbx : Tri3 (w.alloc (.cells #[.int .u32 pc, .slice none 0 0, vp] 41)) w.heap.size (.int .u32 pc) (.slice none 0 0) vp := heap_alloc_new w _
  clear hS hBox hbx
  go_enter Tryz.func16, Tryz.ntmps16
  go_wp2
  go_ret
  exact ⟨rfl, HBOX.out⟩
theorem lower_nil {w : World} {pc : Int} {vp : Value} {ad : Nat → Addr} (hS : Sents w ad) :
    Calls Tryz.prog 6 #[.agg #[.int .u32 pc, .slice none 0 0, vp]] w fun e w' => LowerPost w pc [] ad e w' := by
  have hb1 := (Below.refl w.heap.size w).alloc (Nat.le_refl _) (.cells #[.int .u32 pc, .slice none 0 0, vp] 41)
  have hb2 := hb1.alloc hb1.size (.cells #[.int .u32 0, .int .i64 0, .slice none 0 0] 34)
  have HB2 := Lib.hid hb2
  have HRT := Lib.hid (right_nil (pc := pc) (vp := vp) (hS.below hb2))
  have HPO : Hid (∀ w', Below w.heap.size w w' → LowerPost w pc [] ad (.returned (.tuple #[.agg #[.int .u32 0, .int .i64 0, .slice none 0 0], errI (ad 5)])) w') := by
    refine Lib.hid ?_
    intro w' hb
    unfold LowerPost
    rw [if_neg (by decide)]
    exact ⟨rfl, hb⟩
  have HT : Hid (Tri3C ((w.alloc (.cells #[.int .u32 pc, .slice none 0 0, vp] 41)).alloc (.cells #[.int .u32 0, .int .i64 0, .slice none 0 0] 34)) (w.heap.size + 1) (.int .u32 0) (.int .i64 0) (.slice none 0 0)) := by
    refine Lib.hid ?_
    have := heap_alloc_new (w.alloc (.cells #[.int .u32 pc, .slice none 0 0, vp] 41)) (.cells #[.int .u32 0, .int .i64 0, .slice none 0 0] 34)
    have e : (w.alloc (.cells #[.int .u32 pc, .slice none 0 0, vp] 41)).heap.size = w.heap.size + 1 := by simp
    rw [e] at this
    exact this
  clear hS hb1 hb2
  go_enter Tryz.func6, Tryz.ntmps6
  go_wp2_with fail
  generalize (w.alloc (.cells #[.int .u32 pc, .slice none 0 0, vp] 41)).alloc (.cells #[.int .u32 0, .int .i64 0, .slice none 0 0] 34) = W at *
  refine HRT.out.mono ?_
  rintro e w1 ⟨rfl, hb⟩
  have HT1 : Hid (Tri3C w1 (w.heap.size + 1) (.int .u32 0) (.int .i64 0) (.slice none 0 0)) := Lib.hid ((hb.block _ (Array.getElem?_eq_some_iff.1 HT.out).1).trans HT.out)
  have HB1 := Lib.hid (HB2.out.trans (hb.mono HB2.out.size))
  obtain ⟨t0, t1, t2, t3, t4, t5⟩ := Tri3C.cells HT1.out
  have HT2 := Lib.hid (Tri3C.fill HT1.out (.int .u32 0) (.int .i64 0) (.slice none 0 0))
  have HB3 := Lib.hid (below_fill3C HB1.out (b := w.heap.size + 1) (Nat.le_succ _) (.int .u32 0) (.int .i64 0) (.slice none 0 0))
  clear hb
  go_wp2
  change bodyPost _ _ _ _ _ (fill3C w1 (w.heap.size + 1) (.int .u32 0) (.int .i64 0) (.slice none 0 0))
  clear t0 t1 t2 t3 t4 t5
  generalize fill3C w1 (w.heap.size + 1) (.int .u32 0) (.int .i64 0) (.slice none 0 0) = W2 at *
  obtain ⟨t0, t1, t2, _⟩ := Tri3C.cells HT2.out
  exact bodyPost_ret (v := .tuple #[.agg #[.int .u32 0, .int .i64 0, .slice none 0 0], errI (ad 5)]) (by simp [results, Tryz.results6, go_sem, t0, t1, t2]) rfl (HPO.out _ HB3.out)
theorem lower_any {w : World} {g cap : Nat} {l : List InsN} {pc : Int} {vp : Value} {ad : Nat → Addr} (hl : l.length ≤ 30) (h : InsAt w g 0 l) (hf : ∀ i ∈ l, i.Fits) (hS : Sents w ad) (p0 : 0 ≤ pc) (p1 : pc < 4294967296) (hty : ∃ cs fr, w.heap[g]? = some (.cells cs 69 fr)) :
    Calls Tryz.prog 6 #[.agg #[.int .u32 pc, .slice (some ⟨g, 0, none⟩) l.length cap, vp]] w fun e w' => LowerPost w pc l ad e w' := by
  by_cases hr : regErr l = 0
  · exact lower_good h hf hS hr p0 p1 hty
  · exact lower_bad hl h hf hS hr
end Go.Proofs.YtlnefmgiiogcmaaGreatDoor
namespace Go.Proofs.YtlnefmgiiogcmaaGreatDoor
open Go.RowKit
theorem deadKind_eq (k : OpK) : deadKind k = (decide (k = .set) || decide (k = .copy) || sumKB k) := by
  cases k <;> rfl
theorem deadL_drop {d : Nat} {R : List OpN} {k : Nat} {seen : Bool} (hk : k < R.length) :
    deadL d (R.drop k) seen = if d ∈ rdO R[k] then false else if wrO R[k] = d then (decide (33 < d) || !seen) else deadL d (R.drop (k + 1)) (seen || decide (R[k].kind = .cond)) := by
  rw [List.drop_eq_getElem_cons hk]
  rfl
theorem lit_cond (k : OpK) : (k = .cond → k.lit = ⟨#[105, 102]⟩) ∧ (¬ k = .cond → (k.lit.toList == [105, 102]) = false ∧ ¬ k.lit.toList = [105, 102]) := by
  cases k <;> first | exact ⟨fun _ => rfl, fun h => absurd rfl h⟩ | exact ⟨(fun h => by cases h), fun _ => ⟨by decide +kernel, by decide +kernel⟩⟩
def DeadP (w : World) (q : Bool) (e : Ending) (w' : World) : Prop := e = .returned (.bool q) ∧ Below w.heap.size w w'
set_option maxHeartbeats 8000000 in
set_option maxRecDepth 100000 in
theorem dead_no {w : World} {g cap i : Nat} {ops : List OpN} (h : OpsAt w g ops) (hi : i < ops.length) (hl : ops.length ≤ 100) (hk : deadKind ops[i].kind = false) :
    Calls Tryz.prog 50 #[.slice (some ⟨g, 0, none⟩) ops.length cap, .int .i64 (i : Int)] w fun e w' => DeadP w false e w' := by
  obtain ⟨c0, c1, c2, c3, c4, c5⟩ := h.cells i hi
  rw [deadKind_eq] at hk
  generalize ops[i] = o at *
  obtain ⟨k, d, a, b, im, m⟩ := o
  simp only [Bool.or_eq_false_iff, decide_eq_false_iff_not] at hk
  simp only [lit_text] at c0 c1 c2 c3 c4 c5
  obtain ⟨⟨k1, k2⟩, k3⟩ := hk
  obtain ⟨n1, n2⟩ := lit_ne_set k1
  obtain ⟨n3, n4⟩ := lit_ne_copy k2
  have HS := Lib.hid (fun wx => irSum_any k wx)
  rw [k3] at HS
  clear k1 k2 k3 h
  have hiI : (i : Int) < (ops.length : Int) := by omega
  have hlI : (ops.length : Int) ≤ 100 := by omega
  clear hi hl
  generalize k.lit = kt at *
  go_enter Tryz.func50, Tryz.ntmps50
  go_wp2_with fail
  have hx0 := (Below.refl w.heap.size w).alloc (Nat.le_refl _) (.cells #[.string kt, .int .i64 (d : Int), .int .i64 (a : Int), .int .i64 b, .int .u32 im, .int .i64 (m : Int)] 61)
  have HX := Lib.hid hx0
  clear hx0
  refine (HS.out _).mono ?_
  rintro e w1 ⟨rfl, rfl⟩
  go_wp2
  go_ret
  exact ⟨rfl, HX.out⟩
set_option maxHeartbeats 8000000 in
set_option maxRecDepth 100000 in
theorem dead_yes {w : World} {g cap i : Nat} {ops : List OpN} (h : OpsAt w g ops) (hi : i + 1 < ops.length) (hl : ops.length ≤ 100) (hcap : ops.length ≤ cap) (hg : ∀ o ∈ ops, opG o) (hk : deadKind (ops[i]'(by omega)).kind = true) :
    Calls Tryz.prog 50 #[.slice (some ⟨g, 0, none⟩) ops.length cap, .int .i64 (i : Int)] w fun e w' => DeadP w (deadL (ops[i]'(by omega)).d (ops.drop (i + 1)) false) e w' := by
  have HO := Lib.hid h
  have HG := Lib.hid hg
  have HL := Lib.hid hl
  have HI := Lib.hid hi
  obtain ⟨c0, c1, c2, c3, c4, c5⟩ := h.cells i (by omega)
  have hd64 := (opG_small (hg _ (List.getElem_mem (show i < ops.length by omega)))).1
  rw [deadKind_eq] at hk
  have HRL : Hid ((ops.drop (i + 1)).length = ops.length - (i + 1)) := Lib.hid (List.length_drop ..)
  have HRC : Hid (∀ k (hk : k < (ops.drop (i + 1)).length), w.rangeAt g ((i + 1) * 6 + k * 6) (opC ((ops.drop (i + 1))[k]'hk)) ∧ opG ((ops.drop (i + 1))[k]'hk)) := Lib.hid (fun k hk => by
    have h1 : i + 1 + k < ops.length := by rw [List.length_drop] at hk; omega
    rw [List.getElem_drop]
    have h2 := h.row (i + 1 + k) h1
    rw [show (i + 1 + k) * 6 = (i + 1) * 6 + k * 6 by omega] at h2
    exact ⟨h2, hg _ (List.getElem_mem h1)⟩)
  generalize ops.drop (i + 1) = R at *
  generalize ops[i] = o at *
  obtain ⟨kd, d, a, b, im, m⟩ := o
  simp only [Bool.or_eq_true, decide_eq_true_eq] at hk
  simp only [lit_text] at c0 c1 c2 c3 c4 c5
  simp only at hd64
  have hdI : (d : Int) < 64 := by omega
  have hiI : (i : Int) + 1 < (ops.length : Int) := by omega
  have hlI : (ops.length : Int) ≤ 100 := by omega
  have hi0 : (0 : Int) ≤ (i : Int) := by omega
  have hcI : (ops.length : Int) ≤ (cap : Int) := by omega
  have hdk : kd = .set ∨ kd = .copy ∨ (¬ kd = .set ∧ ¬ kd = .copy ∧ sumKB kd = true) := by
    by_cases e1 : kd = .set
    · exact Or.inl e1
    · by_cases e2 : kd = .copy
      · exact Or.inr (Or.inl e2)
      · exact Or.inr (Or.inr ⟨e1, e2, by rcases hk with (h1 | h1) | h1; exact absurd h1 e1; exact absurd h1 e2; exact h1⟩)
  clear hk h hg hl hi hcap hd64
  have HLE : Hid (ops.length ≤ cap) := Lib.hid (by omega)
  obtain ⟨kt, hkt⟩ : ∃ kt, kd.lit = kt := ⟨_, rfl⟩
  rw [hkt] at c0
  have hc3 : kt = ⟨#[115, 101, 116]⟩ ∨ kt = ⟨#[99, 111, 112, 121]⟩ ∨ ((kt.toList == [115, 101, 116]) = false ∧ ¬ kt.toList = [115, 101, 116]) ∧ ((kt.toList == [99, 111, 112, 121]) = false ∧ ¬ kt.toList = [99, 111, 112, 121]) ∧ Hid (∀ wx, Calls Tryz.prog 77 #[.string kt] wx fun e w' => e = .returned (.bool true) ∧ wx = w') := by
    rw [← hkt]
    rcases hdk with rfl | rfl | ⟨k1, k2, k3⟩
    · exact Or.inl rfl
    · exact Or.inr (Or.inl rfl)
    · exact Or.inr (Or.inr ⟨lit_ne_set k1, lit_ne_copy k2, Lib.hid (fun wx => by have := irSum_any kd wx; rw [k3] at this; exact this)⟩)
  clear hdk hkt
  show Calls _ _ _ _ fun e w' => DeadP w (deadL d R false) e w'
  obtain ⟨cv, hcv⟩ : ∃ cv, deadL d R false = cv := ⟨_, rfl⟩
  rw [hcv]
  have HCV := Lib.hid hcv
  clear hcv
  rcases hc3 with rfl | rfl | ⟨⟨n1, n2⟩, ⟨n3, n4⟩, HS⟩
  all_goals
    go_enter Tryz.func50, Tryz.ntmps50
    go_wp2_with (go_at_call 77; (with_reducible refine (HS.out _).mono ?_); rintro e w1 ⟨rfl, rfl⟩)
    rw [show ops.length - (i + 1) = R.length from HRL.out.symm]
    generalize hX9 : w.alloc _ = X9
    have HB9 : Hid (Below w.heap.size w X9) := Lib.hid (by rw [← hX9]; exact (Below.refl _ _).alloc (Nat.le_refl _) _)
    have HX9 := Lib.hid (show X9.heap[w.heap.size]? = some _ by rw [← hX9]; exact heap_alloc_new w _)
    have hRI : (R.length : Int) ≤ 100 := by have := HRL.out; have := HL.out; omega
    clear hX9 c0 c1 c2 c3 c4 c5
    go_loopw [32, 6] (fun iv sv wr => ∃ (k : Nat) (seen : Bool), k ≤ R.length ∧ iv = .int .i64 (k : Int) ∧ sv = .bool seen ∧ Hid (deadL d (R.drop k) seen = cv) ∧ Hid (Below X9.heap.size X9 wr)) (fun iv _ _ => R.length - (intOf iv).toNat)
    case atStart => exact ⟨0, false, Nat.zero_le _, rfl, rfl, Lib.hid (by rw [List.drop_zero]; exact HCV.out), Lib.hid (Below.refl _ _)⟩
    case round =>
      obtain ⟨k, seen, hk, rfl, rfl, HD, HBk⟩ := hrel
      by_cases hlt : k < R.length
      · have hkI : (k : Int) < (R.length : Int) := by omega
        have hk0 : (0 : Int) ≤ (k : Int) := by omega
        obtain ⟨hra, hxg⟩ := HRC.out k hlt
        have hra' : wr.rangeAt g ((i + 1) * 6 + k * 6) (opC (R[k]'hlt)) := fun c u hu => (HBk.out.cell (Nat.lt_of_lt_of_le HO.out.lt (Nat.le_trans HB9.out.size (Nat.le_refl _)))).trans ((HB9.out.cell HO.out.lt).trans (hra c u hu))
        have HST := Lib.hid (deadL_drop (d := d) (seen := seen) hlt)
        have HXG := Lib.hid hxg
        have HK := Lib.hid hlt
        rw [HD.out] at HST
        generalize R[k]'hlt = x at *
        obtain ⟨kx, dx, ax, bx, ix, mx⟩ := x
        have c0 : wr.cell? ⟨g, (i + 1) * 6 + k * 6, none⟩ = some (.string (bsl kx.text)) := hra' 0 _ rfl
        have c1 := hra' 1 _ rfl
        have c2 := hra' 2 _ rfl
        have c3 := hra' 3 _ rfl
        have c4 := hra' 4 _ rfl
        have c5 := hra' 5 _ rfl
        simp only [lit_text] at c0 c1 c2 c3 c4 c5
        clear hra hra' hxg hlt
        go_wp2_with fail
        generalize hY : wr.alloc (.cells #[.string kx.lit, .int .i64 (dx : Int), .int .i64 (ax : Int), .int .i64 bx, .int .u32 ix, .int .i64 (mx : Int)] 61) = Y
        have hy0 := (Below.refl wr.heap.size wr).alloc (Nat.le_refl _) (.cells #[.string kx.lit, .int .i64 (dx : Int), .int .i64 (ax : Int), .int .i64 bx, .int .u32 ix, .int .i64 (mx : Int)] 61)
        have hy1 := heap_alloc_new wr (.cells #[.string kx.lit, .int .i64 (dx : Int), .int .i64 (ax : Int), .int .i64 bx, .int .u32 ix, .int .i64 (mx : Int)] 61)
        rw [hY] at hy0 hy1
        clear hY
        have hxd : Y.cell? ⟨w.heap.size, 1, none⟩ = some (.int .i64 (d : Int)) := by
          have h1 := (six_cells HX9.out).2.1
          have hlt9 := (Array.getElem?_eq_some_iff.1 HX9.out).1
          have hltr := Nat.lt_of_lt_of_le hlt9 HBk.out.size
          exact (hy0.cell (p := ⟨w.heap.size, 1, none⟩) hltr).trans ((HBk.out.cell (p := ⟨w.heap.size, 1, none⟩) hlt9).trans h1)
        have HBY := Lib.hid (HBk.out.trans (hy0.mono HBk.out.size))
        have HRD := Lib.hid (fun wx => optReads_at (k := kx) HXG.out wx)
        have HWR := Lib.hid (fun wx => optWrites_at (d := dx) (a := ax) (n := mx) (b := bx) (im := ix) kx wx)
        obtain ⟨y0, y1, y2, y3, y4, y5⟩ := six_cells hy1
        have hl0 : wr.heap.size < Y.heap.size := (Array.getElem?_eq_some_iff.1 hy1).1
        have hl1 : w.heap.size < Y.heap.size := World.block_lt_of_cell? _ _ hxd
        have HKS : Hid (∀ w', Below Y.heap.size Y w' → w'.cell? ⟨wr.heap.size, 0, none⟩ = some (.string kx.lit) ∧ w'.cell? ⟨wr.heap.size, 1, none⟩ = some (.int .i64 (dx : Int)) ∧ w'.cell? ⟨wr.heap.size, 2, none⟩ = some (.int .i64 (ax : Int)) ∧ w'.cell? ⟨wr.heap.size, 3, none⟩ = some (.int .i64 bx) ∧ w'.cell? ⟨wr.heap.size, 4, none⟩ = some (.int .u32 ix) ∧ w'.cell? ⟨wr.heap.size, 5, none⟩ = some (.int .i64 (mx : Int)) ∧ w'.cell? ⟨w.heap.size, 1, none⟩ = some (.int .i64 (d : Int)) ∧ Below Y.heap.size Y w') := Lib.hid (fun w' hb => ⟨(hb.cell (p := ⟨wr.heap.size, 0, none⟩) hl0).trans y0, (hb.cell (p := ⟨wr.heap.size, 1, none⟩) hl0).trans y1, (hb.cell (p := ⟨wr.heap.size, 2, none⟩) hl0).trans y2, (hb.cell (p := ⟨wr.heap.size, 3, none⟩) hl0).trans y3, (hb.cell (p := ⟨wr.heap.size, 4, none⟩) hl0).trans y4, (hb.cell (p := ⟨wr.heap.size, 5, none⟩) hl0).trans y5, (hb.cell (p := ⟨w.heap.size, 1, none⟩) hl1).trans hxd, hb⟩)
        obtain ⟨qd, hqd⟩ : ∃ q, decide (d ∈ rdO ⟨kx, dx, ax, bx, ix, mx⟩) = q := ⟨_, rfl⟩
        have HHI : Hid (∀ (wx : World) (v : Value), IntsR wx v (rdO ⟨kx, dx, ax, bx, ix, mx⟩) → Calls Tryz.prog 81 #[v, .int .i64 (d : Int)] wx fun e w' => e = .returned (.bool qd) ∧ wx = w') := Lib.hid (fun wx v hv => by
          have := hasInts hv d (by have := rdO_len ⟨kx, dx, ax, bx, ix, mx⟩; omega)
          rw [hqd] at this
          exact this)
        have HT1 : Hid (qd = true → cv = false) := Lib.hid (fun e => by
          have h1 := HST.out
          rw [if_pos (by rw [← hqd] at e; exact of_decide_eq_true e)] at h1
          exact h1)
        have HT2 : Hid (qd = false → wrO ⟨kx, dx, ax, bx, ix, mx⟩ = d → cv = (decide (33 < d) || !seen)) := Lib.hid (fun e e2 => by
          have h1 := HST.out
          rw [if_neg (by rw [← hqd] at e; exact of_decide_eq_false e), if_pos e2] at h1
          exact h1)
        have HT3 : Hid (qd = false → ¬ wrO ⟨kx, dx, ax, bx, ix, mx⟩ = d → deadL d (R.drop (k + 1)) (seen || decide (kx = .cond)) = cv) := Lib.hid (fun e e2 => by
          have h1 := HST.out
          rw [if_neg (by rw [← hqd] at e; exact of_decide_eq_false e), if_neg e2] at h1
          exact h1.symm)
        have HCL := Lib.hid (lit_cond kx)
        clear hy0 hy1 hl0 hl1 c0 c1 c2 c3 c4 c5 HXG HST hqd HD
        generalize rdO ⟨kx, dx, ax, bx, ix, mx⟩ = RD at *
        generalize wrO ⟨kx, dx, ax, bx, ix, mx⟩ = wd at *
        generalize kx.lit = kl at *
        go_region_held3 (fun w' => w'.cell? ⟨wr.heap.size, 0, none⟩ = some (.string kl) ∧ w'.cell? ⟨wr.heap.size, 1, none⟩ = some (.int .i64 (dx : Int)) ∧ w'.cell? ⟨wr.heap.size, 2, none⟩ = some (.int .i64 (ax : Int)) ∧ w'.cell? ⟨wr.heap.size, 3, none⟩ = some (.int .i64 bx) ∧ w'.cell? ⟨wr.heap.size, 4, none⟩ = some (.int .u32 ix) ∧ w'.cell? ⟨wr.heap.size, 5, none⟩ = some (.int .i64 (mx : Int)) ∧ w'.cell? ⟨w.heap.size, 1, none⟩ = some (.int .i64 (d : Int)) ∧ Below Y.heap.size Y w')
          (first | assumption | exact HKS.out _ (Below.refl _ _).drew | exact HKS.out _ ((Below.refl Y.heap.size Y).drew.trans hb3))
          (first | (go_at_call 54; refine (HRD.out _).mono ?_; rintro e w3 ⟨v3, rfl, hv3, hb3⟩) | (go_at_call 81; refine (HHI.out _ _ hv3).mono ?_; rintro e w4 ⟨rfl, rfl⟩))
        have HB3 := Lib.hid ((Below.refl Y.heap.size Y).drew.trans hb3)
        go_split_ands
        clear hv3 hb3
        have HBW := Lib.hid (HB9.out.trans (HBY.out.mono HB9.out.size))
        cases qd with
        | true =>
          have HE := Lib.hid (HT1.out rfl)
          clear HT1 HT2 HT3
          go_wp2
          go_ret
          exact ⟨by rw [HE.out]; rfl, HBW.out.trans (HB3.out.mono HBW.out.size)⟩
        | false =>
          have HE2 := Lib.hid (HT2.out rfl)
          have HE3 := Lib.hid (HT3.out rfl)
          clear HT1 HT2 HT3
          go_wp2_with fail
          go_region_held3 (fun w' => w'.cell? ⟨wr.heap.size, 0, none⟩ = some (.string kl) ∧ w'.cell? ⟨wr.heap.size, 1, none⟩ = some (.int .i64 (dx : Int)) ∧ w'.cell? ⟨wr.heap.size, 2, none⟩ = some (.int .i64 (ax : Int)) ∧ w'.cell? ⟨wr.heap.size, 3, none⟩ = some (.int .i64 bx) ∧ w'.cell? ⟨wr.heap.size, 4, none⟩ = some (.int .u32 ix) ∧ w'.cell? ⟨wr.heap.size, 5, none⟩ = some (.int .i64 (mx : Int)) ∧ w'.cell? ⟨w.heap.size, 1, none⟩ = some (.int .i64 (d : Int)) ∧ Below Y.heap.size Y w')
            (first | assumption | exact HKS.out _ (HB3.out.trans ((Below.refl w3.heap.size w3).drew.mono HB3.out.size)) | exact HKS.out _ (bwT (HB3.out.trans ((Below.refl w3.heap.size w3).drew.mono HB3.out.size)) hb5))
            (first | (go_at_call 55; refine (HWR.out _).mono ?_; rintro e w5 ⟨rfl, hb5⟩))
          have HB5 := Lib.hid (bwT (HB3.out.trans ((Below.refl w3.heap.size w3).drew.mono HB3.out.size)) hb5)
          have hk5 := HKS.out w5 HB5.out
          clear HKS hb5 HB3
          go_split_ands
          by_cases ewd : wd = d
          · have HE := Lib.hid (HE2.out ewd)
            clear HE2 HE3
            subst ewd
            by_cases h33 : 33 < wd
            · have h33I : (33 : Int) < (wd : Int) := by omega
              have HX := Lib.hid (show cv = true by rw [HE.out, decide_eq_true h33]; rfl)
              clear h33
              go_wp2
              go_ret
              exact ⟨by rw [HX.out]; rfl, HBW.out.trans (HB5.out.mono HBW.out.size)⟩
            · have h33I : ¬ (33 : Int) < (wd : Int) := by omega
              have h33D : decide ((33 : Int) < (wd : Int)) = false := decide_eq_false h33I
              have HX := Lib.hid (show cv = !seen by rw [HE.out, decide_eq_false h33]; rfl)
              clear h33
              go_wp2
              go_ret
              exact ⟨by rw [HX.out]; rfl, HBW.out.trans (HB5.out.mono HBW.out.size)⟩
          · have HE := Lib.hid (HE3.out ewd)
            clear HE2 HE3
            have hne : ((wd : Int) == (d : Int)) = false := by rw [beq_eq_false_iff_ne]; omega
            clear ewd
            cases seen with
            | true =>
              go_wp2
              go_roundw
              case rel => exact ⟨k + 1, true, HK.out, by go_num, rfl, Lib.hid HE.out, Lib.hid (HBY.out.trans (HB5.out.mono HBY.out.size))⟩
              case measure => have := HK.out; go_light; simp [intOf]; omega
            | false =>
              by_cases hco : kx = .cond
              · have HX := Lib.hid (show deadL d (R.drop (k + 1)) true = cv by have := HE.out; rwa [hco] at this)
                obtain rfl := (HCL.out.1 hco)
                clear HE hco HCL
                go_wp2
                go_roundw
                case rel => exact ⟨k + 1, true, HK.out, by go_num, rfl, HX, Lib.hid (HBY.out.trans (HB5.out.mono HBY.out.size))⟩
                case measure => have := HK.out; go_light; simp [intOf]; omega
              · have HX := Lib.hid (show deadL d (R.drop (k + 1)) false = cv by have := HE.out; rwa [decide_eq_false hco] at this)
                obtain ⟨m1, m2⟩ := HCL.out.2 hco
                clear HE hco HCL
                go_wp2
                go_roundw
                case rel => exact ⟨k + 1, false, HK.out, by go_num, rfl, HX, Lib.hid (HBY.out.trans (HB5.out.mono HBY.out.size))⟩
                case measure => have := HK.out; go_light; simp [intOf]; omega
      · obtain rfl : k = R.length := by omega
        have hdd : decide ((R.length : Int) < (R.length : Int)) = false := decide_eq_false (by omega)
        have hxd : wr.cell? ⟨w.heap.size, 1, none⟩ = some (.int .i64 (d : Int)) := by
          have h1 := (six_cells HX9.out).2.1
          have hlt9 := (Array.getElem?_eq_some_iff.1 HX9.out).1
          exact (HBk.out.cell (p := ⟨w.heap.size, 1, none⟩) hlt9).trans h1
        have HBW := Lib.hid (HB9.out.trans (HBk.out.mono HB9.out.size))
        have HX := Lib.hid (show decide (33 < d) = cv by have := HD.out; rw [List.drop_length] at this; exact this)
        clear HD HCV hk
        by_cases h33 : 33 < d
        · have h33I : (33 : Int) < (d : Int) := by omega
          have hcv : cv = true := by rw [← HX.out]; exact decide_eq_true h33
          subst hcv
          clear h33
          go_wp2
          go_ret
          exact ⟨rfl, HBW.out⟩
        · have h33I : ¬ (33 : Int) < (d : Int) := by omega
          have h33D : decide ((33 : Int) < (d : Int)) = false := decide_eq_false h33I
          have hcv : cv = false := by rw [← HX.out]; exact decide_eq_false h33
          subst hcv
          clear h33
          go_wp2
          go_ret
          exact ⟨rfl, HBW.out⟩
set_option maxHeartbeats 8000000 in
set_option maxRecDepth 100000 in
theorem dead_last {w : World} {g cap i : Nat} {ops : List OpN} (h : OpsAt w g ops) (hi : i + 1 = ops.length) (hl : ops.length ≤ 100) (hcap : ops.length ≤ cap) (hg : ∀ o ∈ ops, opG o) (hk : deadKind (ops[i]'(by omega)).kind = true) :
    Calls Tryz.prog 50 #[.slice (some ⟨g, 0, none⟩) ops.length cap, .int .i64 (i : Int)] w fun e w' => DeadP w (decide (33 < (ops[i]'(by omega)).d)) e w' := by
  obtain ⟨c0, c1, c2, c3, c4, c5⟩ := h.cells i (by omega)
  have hd64 := (opG_small (hg _ (List.getElem_mem (show i < ops.length by omega)))).1
  rw [deadKind_eq] at hk
  generalize ops[i] = o at *
  obtain ⟨kd, d, a, b, im, m⟩ := o
  simp only [Bool.or_eq_true, decide_eq_true_eq] at hk
  simp only [lit_text] at c0 c1 c2 c3 c4 c5
  simp only at hd64
  obtain ⟨q, hq⟩ : ∃ q, decide (33 < d) = q := ⟨_, rfl⟩
  show Calls _ _ _ _ fun e w' => DeadP w (decide (33 < d)) e w'
  rw [hq]
  have hqI : decide ((33 : Int) < (d : Int)) = q := by rw [← hq]; exact decide_eq_decide.2 ⟨fun h => by omega, fun h => by omega⟩
  have hqT : q = true → (33 : Int) < (d : Int) := fun e => by rw [e] at hqI; exact of_decide_eq_true hqI
  have hqF : q = false → ¬ (33 : Int) < (d : Int) := fun e => by rw [e] at hqI; exact of_decide_eq_false hqI
  obtain ⟨N, hN⟩ : ∃ N, ops.length = N := ⟨_, rfl⟩
  rw [hN]
  have hiI : (i : Int) + 1 ≤ (N : Int) := by omega
  have hlI : (N : Int) ≤ 100 := by omega
  have hi0 : (0 : Int) ≤ (i : Int) := by omega
  have hiN : (i : Int) < (N : Int) := by omega
  have hcI : (N : Int) ≤ (cap : Int) := by omega
  obtain ⟨kt, hkt⟩ : ∃ kt, kd.lit = kt := ⟨_, rfl⟩
  rw [hkt] at c0
  have hc3 : kt = ⟨#[115, 101, 116]⟩ ∨ kt = ⟨#[99, 111, 112, 121]⟩ ∨ ((kt.toList == [115, 101, 116]) = false ∧ ¬ kt.toList = [115, 101, 116]) ∧ ((kt.toList == [99, 111, 112, 121]) = false ∧ ¬ kt.toList = [99, 111, 112, 121]) ∧ Hid (∀ wx, Calls Tryz.prog 77 #[.string kt] wx fun e w' => e = .returned (.bool true) ∧ wx = w') := by
    rw [← hkt]
    by_cases e1 : kd = .set
    · exact Or.inl (by rw [e1]; rfl)
    · by_cases e2 : kd = .copy
      · exact Or.inr (Or.inl (by rw [e2]; rfl))
      · exact Or.inr (Or.inr ⟨lit_ne_set e1, lit_ne_copy e2, Lib.hid (fun wx => by
          have := irSum_any kd wx
          rw [show sumKB kd = true by rcases hk with (h1 | h1) | h1; exact absurd h1 e1; exact absurd h1 e2; exact h1] at this
          exact this)⟩)
  have hcc : cap = i + 1 ∨ i + 1 < cap := by omega
  have hsub : N - (i + 1) = 0 := by omega
  have HEQ := Lib.hid (And.intro hi hN)
  have HT := Lib.hid hqT
  have HF := Lib.hid hqF
  clear hk h hg hl hcap hd64 hkt hi hN hqI hqT hqF hq
  rcases hcc with rfl | hcc
  all_goals
    rcases hc3 with rfl | rfl | ⟨⟨n1, n2⟩, ⟨n3, n4⟩, HS⟩
    all_goals
      go_enter Tryz.func50, Tryz.ntmps50
      go_wp2_with (go_at_call 77; (with_reducible refine (HS.out _).mono ?_); rintro e w1 ⟨rfl, rfl⟩)
      generalize hX9 : w.alloc _ = X9
      have HB9 : Hid (Below w.heap.size w X9) := Lib.hid (by rw [← hX9]; exact (Below.refl _ _).alloc (Nat.le_refl _) _)
      have hx9 := (show X9.heap[w.heap.size]? = some _ by rw [← hX9]; exact heap_alloc_new w _)
      obtain ⟨y0, y1, y2, y3, y4, y5⟩ := six_cells hx9
      clear hX9 hx9 c0 c1 c2 c3 c4 c5
      refine wp_loop_rounds 1 ?_
      rw [rounds_succ]
      cases q with
      | true =>
        have hT := HT.out rfl
        go_wp2
        go_ret
        exact ⟨rfl, HB9.out⟩
      | false =>
        have hF := HF.out rfl
        have hF2 : decide ((33 : Int) < (d : Int)) = false := decide_eq_false (by omega)
        go_wp2
        go_ret
        exact ⟨rfl, HB9.out⟩
theorem dead_any {w : World} {g cap i : Nat} {ops : List OpN} (h : OpsAt w g ops) (hi : i < ops.length) (hl : ops.length ≤ 100) (hcap : ops.length ≤ cap) (hg : ∀ o ∈ ops, opG o) :
    Calls Tryz.prog 50 #[.slice (some ⟨g, 0, none⟩) ops.length cap, .int .i64 (i : Int)] w fun e w' => DeadP w (deadO ops[i] (ops.drop (i + 1))) e w' := by
  unfold deadO
  cases hk : deadKind ops[i].kind with
  | false => exact dead_no h hi hl hk
  | true =>
    rw [Bool.true_and]
    by_cases e : i + 1 < ops.length
    · exact dead_yes h e hl hcap hg hk
    · have e2 : i + 1 = ops.length := by omega
      have := dead_last h e2 hl hcap hg hk
      rw [e2, List.drop_length]
      exact this
end Go.Proofs.YtlnefmgiiogcmaaGreatDoor
namespace Go.Proofs.YtlnefmgiiogcmaaGreatDoor
open Go.RowKit
theorem sweep1_at : ∀ (l : List OpN) (i : Nat) (h : i < l.length), (∀ j (hj : j < i), deadO (l[j]'(by omega)) (l.drop (j + 1)) = false) → deadO l[i] (l.drop (i + 1)) = true → sweep1 l = some (l.eraseIdx i)
  | [], i, h, _, _ => absurd h (Nat.not_lt_zero i)
  | o :: os, 0, h, _, h2 => by
    have h3 : deadO o os = true := h2
    rw [sweep1, if_pos h3]
    rfl
  | o :: os, i + 1, h, h1, h2 => by
    have h0 := h1 0 (by omega)
    rw [sweep1, if_neg (by rw [show deadO o os = false from h0]; decide), sweep1_at os i (by simpa using h) (fun j hj => h1 (j + 1) (by omega)) h2]
    rfl
theorem sweep1_none : ∀ (l : List OpN), (∀ j (hj : j < l.length), deadO l[j] (l.drop (j + 1)) = false) → sweep1 l = none
  | [], _ => rfl
  | o :: os, h => by
    have h0 := h 0 (by simp)
    rw [sweep1, if_neg (by rw [show deadO o os = false from h0]; decide), sweep1_none os (fun j hj => h (j + 1) (by simpa using hj))]
    rfl
theorem sweepN_none {l : List OpN} (h : sweep1 l = none) : ∀ n, sweepN n l = l
  | 0 => rfl
  | n + 1 => by rw [sweepN, h]
theorem sweepZ_none {l : List OpN} (h : sweep1 l = none) : sweepZ l = l := sweepN_none h _
theorem sweepZ_some {l l' : List OpN} (h : sweep1 l = some l') : sweepZ l = sweepZ l' := by
  have hl := sweep1_len l l' h
  unfold sweepZ
  rw [← hl, sweepN, h]
def lenV (v : Value) : Nat := match v with | .slice _ n _ => n | _ => 0
def oneV (v : Value) : Nat := match v with | .bool true => 1 | _ => 0
def SweepP (w : World) (z : List OpN) (e : Ending) (w' : World) : Prop := ∃ g cap, e = .returned (.slice (some ⟨g, 0, none⟩) z.length cap) ∧ z.length ≤ cap ∧ OpsAt w' g z ∧ Below w.heap.size w w'
theorem out_alive {many : Nat} {l : List OpN} (hc : CodeOK many l) {i : Nat} (hi : i < l.length) (hd : deadO l[i] (l.drop (i + 1)) = true) : i + 1 < l.length := by
  by_cases e : i + 1 < l.length
  · exact e
  · have h1 := hc.out i hi
    rw [decide_eq_true (show i + 1 = l.length by omega)] at h1
    unfold deadO at hd
    have h2 : deadKind l[i].kind = false := by
      revert h1
      cases l[i].kind <;> simp [outK, deadKind, isSumK, divO]
    rw [h2] at hd
    cases hd
set_option maxHeartbeats 8000000 in
set_option maxRecDepth 100000 in
theorem sweep_any {w : World} {g cap many : Nat} {ops : List OpN} (h : OpsAt w g ops) (hc : CodeOK many ops) (hcap : ops.length ≤ cap) :
    Calls Tryz.prog 25 #[.slice (some ⟨g, 0, none⟩) ops.length cap] w fun e w' => SweepP w (sweepZ ops) e w' := by
  obtain ⟨Z, hZ⟩ : ∃ Z, sweepZ ops = Z := ⟨_, rfl⟩
  rw [hZ]
  have HZ := Lib.hid hZ
  have HO := Lib.hid h
  have HC := Lib.hid hc
  have HCAP := Lib.hid hcap
  clear h hc hcap hZ
  go_enter Tryz.func25, Tryz.ntmps25
  go_wp2_with fail
  go_loopw [0, 3] (fun v a wr => ∃ (cur : List OpN) (g1 cap1 : Nat) (again : Bool), v = .slice (some ⟨g1, 0, none⟩) cur.length cap1 ∧ a = .bool again ∧ Hid (cur.length ≤ cap1 ∧ CodeOK many cur ∧ sweepZ cur = Z ∧ (again = false → sweep1 cur = none) ∧ OpsAt wr g1 cur ∧ Below w.heap.size w wr)) (fun v a _ => 2 * lenV v + oneV a)
  case atStart => exact ⟨ops, g, cap, true, rfl, rfl, Lib.hid ⟨HCAP.out, HC.out, HZ.out, fun e => (by cases e), HO.out, Below.refl _ _⟩⟩
  case round =>
    obtain ⟨cur, g1, cap1, again, rfl, rfl, HR⟩ := hrel
    cases again with
    | true =>
      have hcl : (cur.length : Int) ≤ 100 := by have := HR.out.2.1.len; omega
      go_wp2_with fail
      go_loopw [0, 3, 8] (fun v0 v3 v8 wk => ∃ k : Nat, k ≤ cur.length ∧ v0 = .slice (some ⟨g1, 0, none⟩) cur.length cap1 ∧ v3 = .bool false ∧ v8 = .int .i64 (k : Int) ∧ Hid ((∀ j (hj : j < cur.length), j < k → deadO cur[j] (cur.drop (j + 1)) = false) ∧ OpsAt wk g1 cur ∧ Below w.heap.size w wk)) (fun _ _ v8 _ => cur.length - (intOf v8).toNat)
      case atStart => exact ⟨0, Nat.zero_le _, rfl, rfl, rfl, Lib.hid ⟨fun j hj h0 => absurd h0 (Nat.not_lt_zero j), HR.out.2.2.2.2.1, HR.out.2.2.2.2.2⟩⟩
      case round =>
        obtain ⟨k, hk, rfl, rfl, rfl, HK⟩ := hrel
        by_cases hlt : k < cur.length
        · have hkI : (k : Int) < (cur.length : Int) := by omega
          have HKL := Lib.hid hlt
          have hdd := dead_any (cap := cap1) HK.out.2.1 hlt HR.out.2.1.len HR.out.1 (fun o ho => (HR.out.2.1.good o ho).2.1)
          generalize hq : deadO (cur[k]'hlt) (cur.drop (k + 1)) = q at hdd
          have HD := Lib.hid hdd
          clear hdd
          have HQ := Lib.hid hq
          clear hq
          go_wp2_with fail
          refine HD.out.mono ?_
          rintro e w2 ⟨rfl, hb2⟩
          have HB2 := Lib.hid (HK.out.2.2.trans (hb2.mono HK.out.2.2.size))
          have HO2 := Lib.hid (HK.out.2.1.below hb2 HK.out.2.1.lt)
          clear hb2 HD
          cases q with
          | true =>
            have HAL := Lib.hid (out_alive HR.out.2.1 HKL.out HQ.out)
            have HS1 := Lib.hid (sweep1_at cur k HKL.out (fun j hj => HK.out.1 j (by have := HKL.out; omega) hj) HQ.out)
            go_wp2_with fail
            refine (cloneOps HO2.out HR.out.2.1.ne (by have := HR.out.2.1.len; omega)).mono ?_
            intro e w3 h3
            obtain ⟨g3, cap3, rfl, hg3, hc3, ho3, hb3⟩ := h3
            have HDL := Lib.hid (deleteOp ho3 HAL.out HR.out.2.1.len hc3)
            have HB3 := Lib.hid (HB2.out.trans (hb3.mono HB2.out.size))
            have HG3 := Lib.hid (And.intro hg3 hc3)
            clear hg3 hc3 ho3 hb3
            go_wp2_with fail
            refine HDL.out.mono ?_
            intro e w4 h4
            obtain ⟨rfl, ho4, hk4⟩ := h4
            have hlen4 : (cur.eraseIdx k).length + 1 = cur.length := sweep1_len cur _ HS1.out
            have HN := Lib.hid (show (cur.eraseIdx k).length ≤ cap3 ∧ CodeOK many (cur.eraseIdx k) ∧ sweepZ (cur.eraseIdx k) = Z ∧ (true = false → sweep1 (cur.eraseIdx k) = none) ∧ OpsAt w4 g3 (cur.eraseIdx k) ∧ Below w.heap.size w w4 from
              ⟨by have := HG3.out.2; omega, sweep1_ok HR.out.2.1 HS1.out, by rw [← sweepZ_some HS1.out]; exact HR.out.2.2.1, fun e => (by cases e), ho4.is, HB3.out.trans (hk4.to_below HB3.out.size (fun i hi e => by have := HG3.out.1; have := HB2.out.size; omega))⟩)
            have HL4 := Lib.hid hlen4
            clear ho4 hk4 hlen4 HDL
            generalize cur.eraseIdx k = cur2 at *
            go_wp2_with fail
            go_roundw
            case rel => exact ⟨cur2, g3, cap3, true, rfl, rfl, HN⟩
            case measure => have := HL4.out; go_light; simp [lenV, oneV]; omega
          | false =>
            go_wp2_with fail
            go_roundw
            case rel => exact ⟨k + 1, HKL.out, rfl, rfl, by go_num, Lib.hid ⟨fun j hj hjk => by
              by_cases e : j = k
              · subst e
                exact HQ.out
              · exact HK.out.1 j hj (by omega), HO2.out, HB2.out⟩⟩
            case measure => have := HKL.out; go_light; simp [intOf]; omega
        · obtain rfl : k = cur.length := by omega
          have hd : decide ((cur.length : Int) < (cur.length : Int)) = false := decide_eq_false (by omega)
          have HN := Lib.hid (show cur.length ≤ cap1 ∧ CodeOK many cur ∧ sweepZ cur = Z ∧ (false = false → sweep1 cur = none) ∧ OpsAt wr g1 cur ∧ Below w.heap.size w wr from
            ⟨HR.out.1, HR.out.2.1, HR.out.2.2.1, fun _ => sweep1_none cur (fun j hj => HK.out.1 j hj hj), HK.out.2.1, HK.out.2.2⟩)
          go_wp2_with fail
          go_roundw
          case rel => exact ⟨cur, g1, cap1, false, rfl, rfl, HN⟩
          case measure => go_light; simp [lenV, oneV]
    | false =>
      go_wp2_with fail
      go_ret
      obtain ⟨h1, h2, h3, h4, h5, h6⟩ := HR.out
      have e : cur = Z := by rw [← h3, sweepZ_none (h4 (by simp))]
      exact ⟨g1, cap1, by rw [← e]; rfl, by rw [← e]; exact h1, by rw [← e]; exact h5, h6⟩
end Go.Proofs.YtlnefmgiiogcmaaGreatDoor
namespace Go.Proofs.YtlnefmgiiogcmaaGreatDoor
open Go.RowKit
def codeV (pc : Int) (many : Nat) (v : Value) : Value := .agg #[.int .u32 pc, .int .i64 (many : Int), v]
def OptP (w : World) (pc : Int) (many : Nat) (z : List OpN) (e : Ending) (w' : World) : Prop := ∃ g cap, e = .returned (.tuple #[codeV pc many (.slice (some ⟨g, 0, none⟩) z.length cap), .nilIface]) ∧ z.length ≤ cap ∧ OpsAt w' g z ∧ Below w.heap.size w w'
theorem fill3C_other (w : World) {b k : Nat} (v0 v1 v2 : Value) (h : k ≠ b) : (fill3C w b v0 v1 v2).heap[k]? = w.heap[k]? :=
  (setCell_other _ b 2 k v2 h).trans ((setCell_other _ b 1 k v1 h).trans (setCell_other w b 0 k v0 h))
theorem ops_not_tri {w : World} {g b : Nat} {l : List OpN} {pc : Int} {v1 v2 : Value} (h : OpsAt w g l) (h0 : 0 < l.length) (ht : Tri3C w b (.int .u32 pc) v1 v2) : g ≠ b := by
  intro e
  subst e
  have c1 := (h.cells 0 h0).1
  have c2 := (Tri3C.cells ht).1
  rw [Nat.zero_mul] at c1
  rw [c1] at c2
  cases c2
theorem tri3_set2 {w : World} {b : Nat} {a0 a1 a2 : Value} (h : Tri3C w b a0 a1 a2) (v : Value) : Tri3C (w.setCell ⟨b, 2, none⟩ v) b a0 a1 v := Joins.block_setCell h v
theorem tri3_after {wX w4 : World} {a0 a1 a2 : Value} (hb : Below (wX.alloc (.cells #[a0, a1, a2] 34)).drew.heap.size (wX.alloc (.cells #[a0, a1, a2] 34)).drew w4) : Tri3C w4 wX.heap.size a0 a1 a2 :=
  (hb.block wX.heap.size (by show wX.heap.size < (wX.alloc _).heap.size; simp)).trans (heap_alloc_new wX _)
set_option maxHeartbeats 8000000 in
set_option maxRecDepth 100000 in
theorem opt_any {w : World} {g cap many level : Nat} {ops : List OpN} {pc mx : Int} (h : OpsAt w g ops) (hc : CodeOK many ops) (hcap : ops.length ≤ cap) (hlv : level ≤ 2) (hm : w.cell? ⟨8, 0, none⟩ = some (.int .i64 mx)) :
    Calls Tryz.prog 7 #[codeV pc many (.slice (some ⟨g, 0, none⟩) ops.length cap), .int .i64 (level : Int)] w fun e w' => OptP w pc many (optZ level ops) e w' := by
  obtain ⟨z, hz⟩ : ∃ z, optZ level ops = z := ⟨_, rfl⟩
  rw [hz]
  have hw1 := (Below.refl w.heap.size w).alloc (Nat.le_refl _) (.cells #[.int .u32 pc, .int .i64 (many : Int), .slice (some ⟨g, 0, none⟩) ops.length cap] 34)
  have hw2 := hw1.alloc (by simp) (.cells #[.int .u32 0, .int .i64 0, .slice none 0 0] 34)
  have hbx1 : ((w.alloc (.cells #[.int .u32 pc, .int .i64 (many : Int), .slice (some ⟨g, 0, none⟩) ops.length cap] 34)).alloc (.cells #[.int .u32 0, .int .i64 0, .slice none 0 0] 34)).heap[w.heap.size]? = some (.cells #[.int .u32 pc, .int .i64 (many : Int), .slice (some ⟨g, 0, none⟩) ops.length cap] 34 (0, 0)) :=
    ((Below.refl (w.heap.size + 1) _).alloc (by simp) _).block w.heap.size (by omega) |>.trans (heap_alloc_new w _)
  have hbx2 : ((w.alloc (.cells #[.int .u32 pc, .int .i64 (many : Int), .slice (some ⟨g, 0, none⟩) ops.length cap] 34)).alloc (.cells #[.int .u32 0, .int .i64 0, .slice none 0 0] 34)).heap[w.heap.size + 1]? = some (.cells #[.int .u32 0, .int .i64 0, .slice none 0 0] 34 (0, 0)) := by
    have := heap_alloc_new (w.alloc (.cells #[.int .u32 pc, .int .i64 (many : Int), .slice (some ⟨g, 0, none⟩) ops.length cap] 34)) (.cells #[.int .u32 0, .int .i64 0, .slice none 0 0] 34)
    simpa using this
  have HO := Lib.hid h
  have HC := Lib.hid hc
  have HCAP := Lib.hid hcap
  have HZ := Lib.hid hz
  have HM := Lib.hid hm
  have HW2 := Lib.hid hw2
  have HB1 := Lib.hid hbx1
  have HB2 := Lib.hid hbx2
  have hlI : (level : Int) ≤ 2 := by omega
  have hl0 : (0 : Int) ≤ (level : Int) := by omega
  have HLV := Lib.hid hlv
  have hnI : (ops.length : Int) ≤ 100 := by have := hc.len; omega
  clear h hc hcap hz hm hw1 hw2 hbx1 hbx2 hlv
  unfold codeV
  go_enter Tryz.func7, Tryz.ntmps7
  go_wp2_with fail
  generalize (w.alloc (.cells #[.int .u32 pc, .int .i64 (many : Int), .slice (some ⟨g, 0, none⟩) ops.length cap] 34)).alloc (.cells #[.int .u32 0, .int .i64 0, .slice none 0 0] 34) = W2 at *
  have hlt := HO.out.lt
  have HO2 := Lib.hid (HO.out.below HW2.out hlt)
  have HM2 := Lib.hid ((HW2.out.cell (p := ⟨8, 0, none⟩) (World.block_lt_of_cell? _ _ HM.out)).trans HM.out)
  refine (irCheck_ok HO2.out HC.out HM2.out).mono ?_
  rintro e w3 ⟨rfl, hb3⟩
  have HO3 := Lib.hid (HO2.out.below hb3 HO2.out.lt)
  have HB13 := Lib.hid (show Tri3C w3 w.heap.size (.int .u32 pc) (.int .i64 (many : Int)) (.slice (some ⟨g, 0, none⟩) ops.length cap) from (hb3.block _ (Array.getElem?_eq_some_iff.1 HB1.out).1).trans HB1.out)
  have HB23 := Lib.hid (show Tri3C w3 (w.heap.size + 1) (.int .u32 0) (.int .i64 0) (.slice none 0 0) from (hb3.block _ (Array.getElem?_eq_some_iff.1 HB2.out).1).trans HB2.out)
  have HW3 := Lib.hid (HW2.out.trans (hb3.mono HW2.out.size))
  clear hb3 hlt HO HO2 HB1 HB2 HW2 HM2 HM
  obtain ⟨c0, c1, c2, f0, f1, f2⟩ := HB13.out.cells
  go_wp2_with fail
  have HOK : Hid (∀ W, Below w3.heap.size w3 W → OpsAt W g ops) := Lib.hid (fun W hb => HO3.out.below hb HO3.out.lt)
  have hlt3 : w.heap.size < w3.heap.size := (Array.getElem?_eq_some_iff.1 HB13.out).1
  have HKS : Hid (∀ w', Below w3.heap.size w3 w' → w'.cell? ⟨w.heap.size, 0, none⟩ = some (.int .u32 pc) ∧ w'.cell? ⟨w.heap.size, 1, none⟩ = some (.int .i64 (many : Int)) ∧ w'.cell? ⟨w.heap.size, 2, none⟩ = some (.slice (some ⟨g, 0, none⟩) ops.length cap) ∧ Below w3.heap.size w3 w') := Lib.hid (fun w' hb => ⟨(hb.cell (p := ⟨w.heap.size, 0, none⟩) hlt3).trans c0, (hb.cell (p := ⟨w.heap.size, 1, none⟩) hlt3).trans c1, (hb.cell (p := ⟨w.heap.size, 2, none⟩) hlt3).trans c2, hb⟩)
  clear hlt3
  go_region_held3 (fun w' => w'.cell? ⟨w.heap.size, 0, none⟩ = some (.int .u32 pc) ∧ w'.cell? ⟨w.heap.size, 1, none⟩ = some (.int .i64 (many : Int)) ∧ w'.cell? ⟨w.heap.size, 2, none⟩ = some (.slice (some ⟨g, 0, none⟩) ops.length cap) ∧ Below w3.heap.size w3 w')
    ((go_split_ands; refine HKS.out _ ?_; first | assumption | exact (Below.refl _ _).drew | (apply bwA; assumption) | (refine bwT ?_ hb4; assumption) | exact bwA (bwT (Below.refl _ _).drew hb4) | exact (bwA (Below.refl _ _)).drew | exact below_fill3C (bwT (bwA (Below.refl _ _)).drew hb4) (Nat.le_refl _) _ _ _))
    ((go_at_call 23; refine (cloneOps (HOK.out _ ?_) HC.out.ne (by have := HC.out.len; omega)).mono ?_; (go_split_ands; assumption); intro e w4 h4; obtain ⟨g4, cap4, rfl, hg4, hc4, ho4, hb4⟩ := h4; (first | (have hq : Tri3C w4 w3.heap.size (.int .u32 0) (.int .i64 0) (.slice none 0 0) := tri3_after hb4; obtain ⟨q0, q1, q2, r0, r1, r2⟩ := Tri3C.cells hq) | skip)))
  all_goals
    have HP5 : ∀ (W5 : World) (b : Nat), Tri3C W5 b (.int .u32 pc) (.int .i64 (many : Int)) (.slice (some ⟨g4, 0, none⟩) ops.length cap4) → OpsW W5 g4 ops → Below w3.heap.size w3 W5 → w3.heap.size ≤ b ∧ b ≠ g4 → Hid (Tri3C W5 b (.int .u32 pc) (.int .i64 (many : Int)) (.slice (some ⟨g4, 0, none⟩) ops.length cap4)) ∧ Hid (OpsW W5 g4 ops) ∧ Hid (Below w3.heap.size w3 W5) ∧ Hid (w3.heap.size ≤ b ∧ b ≠ g4) := fun _ _ a b c d => ⟨Lib.hid a, Lib.hid b, Lib.hid c, Lib.hid d⟩
    first
    | (have hq0 := q0
       obtain ⟨HT5, HO5, HB5, HN5⟩ := HP5 (fill3C w4 w3.heap.size (.int .u32 pc) (.int .i64 (many : Int)) (.slice (some ⟨g4, 0, none⟩) ops.length cap4)) w3.heap.size ((tri3_after hb4).fill _ _ _) (ho4.of_block (fill3C_other w4 _ _ _ (fun e => by simp at hg4; omega))) (below_fill3C (bwT (bwA (Below.refl _ _)).drew hb4) (Nat.le_refl _) _ _ _) ⟨Nat.le_refl _, fun e => by simp at hg4; omega⟩
       change Exit.then _ _ _ _ (fill3C w4 w3.heap.size (.int .u32 pc) (.int .i64 (many : Int)) (.slice (some ⟨g4, 0, none⟩) ops.length cap4))
       generalize fill3C w4 w3.heap.size (.int .u32 pc) (.int .i64 (many : Int)) (.slice (some ⟨g4, 0, none⟩) ops.length cap4) = W5 at *
       obtain ⟨b, hbe⟩ : ∃ b, b = w3.heap.size := ⟨_, rfl⟩
       rw [← hbe] at HT5 ⊢
       have HN5 := Lib.hid (show w3.heap.size ≤ b ∧ b ≠ g4 by rw [hbe]; exact HN5.out)
       clear hbe)
    | (obtain ⟨HT5, HO5, HB5, HN5⟩ := HP5 (w4.alloc (.cells #[.int .u32 pc, .int .i64 (many : Int), .slice (some ⟨g4, 0, none⟩) ops.length cap4] 34)) w4.heap.size (heap_alloc_new w4 _) (ho4.of_block ((Below.refl w4.heap.size w4).alloc (Nat.le_refl _) _ |>.block g4 ho4.is.lt)) (bwA (bwT (Below.refl _ _).drew hb4)) ⟨Nat.le_trans (Nat.le_refl _) hb4.size, fun e => by have := ho4.is.lt; omega⟩
       generalize w4.alloc (.cells #[.int .u32 pc, .int .i64 (many : Int), .slice (some ⟨g4, 0, none⟩) ops.length cap4] 34) = W5 at *
       generalize w4.heap.size = b at HT5 HN5 ⊢)
    clear HP5
  all_goals
    have HC4 := Lib.hid hc4
    have HR5 := Lib.hid (show Tri3C W5 (w.heap.size + 1) (.int .u32 0) (.int .i64 0) (.slice none 0 0) from (HB5.out.block _ (Array.getElem?_eq_some_iff.1 HB23.out).1).trans HB23.out)
    clear hg4 hc4 ho4 hb4 HKS HOK c0 c1 c2 f0 f1 f2
    go_split_ands
    obtain rfl | rfl | rfl : level = 0 ∨ level = 1 ∨ level = 2 := by have := HLV.out; omega
    · have hz0 : ops = z := HZ.out
      subst hz0
      have HTz := HT5
      have HOz := Lib.hid HO5.out.is
      have HBz := HB5
      have HRz := HR5
      have hne9 := ops_not_tri HOz.out HC.out.ne HRz.out
      obtain ⟨d0, d1, d2, e0, e1, e2⟩ := Tri3C.cells HTz.out
      obtain ⟨k0, k1, k2, l0, l1, l2⟩ := Tri3C.cells HRz.out
      have hrf := Tri3C.fill HRz.out (.int .u32 pc) (.int .i64 (many : Int)) (.slice (some ⟨g4, 0, none⟩) ops.length cap4)
      have HOF := Lib.hid (HOz.out.of_block (fill3C_other W5 (.int .u32 pc) (.int .i64 (many : Int)) (.slice (some ⟨g4, 0, none⟩) ops.length cap4) hne9))
      have HBF := Lib.hid (below_fill3C (HW3.out.trans (HBz.out.mono HW3.out.size)) (show w.heap.size ≤ w.heap.size + 1 by omega) (.int .u32 pc) (.int .i64 (many : Int)) (.slice (some ⟨g4, 0, none⟩) ops.length cap4))
      clear hne9
      go_wp2_with fail
      change bodyPost _ _ _ _ _ (fill3C W5 (w.heap.size + 1) (.int .u32 pc) (.int .i64 (many : Int)) (.slice (some ⟨g4, 0, none⟩) ops.length cap4))
      clear k0 k1 k2 l0 l1 l2 d0 d1 d2 e0 e1 e2
      generalize fill3C W5 (w.heap.size + 1) (.int .u32 pc) (.int .i64 (many : Int)) (.slice (some ⟨g4, 0, none⟩) ops.length cap4) = W9 at *
      obtain ⟨y0, y1, y2, _, _, _⟩ := Tri3C.cells hrf
      refine bodyPost_ret (v := .tuple #[codeV pc many (.slice (some ⟨g4, 0, none⟩) ops.length cap4), .nilIface]) (by simp [codeV, results, Tryz.results7, go_sem, y0, y1, y2]) rfl ⟨g4, cap4, rfl, HC4.out, HOF.out, HBF.out⟩
    · have hz0 : foldZ noF ops = z := HZ.out
      obtain ⟨d0, d1, d2, e0, e1, e2⟩ := Tri3C.cells HT5.out
      go_wp2_with fail
      refine (fold_any HO5.out.is HC.out.ne HC.out.len (fun o ho => (HC.out.good o ho).2)).mono ?_
      intro e w6 h6
      obtain ⟨g6, cap6, rfl, hg6, hc6, ho6, hb6⟩ := h6
      have HC1 := Lib.hid (SameL.ok (foldZ_same ops noF noF_ok (fun o ho => (HC.out.good o ho).2)) HC.out)
      rw [hz0] at HC1 hc6 ho6 ⊢
      have ht6 : Tri3C w6 b _ _ _ := (hb6.block _ (Array.getElem?_eq_some_iff.1 HT5.out).1).trans HT5.out
      have hr6 : Tri3C w6 (w.heap.size + 1) _ _ _ := (hb6.block _ (Array.getElem?_eq_some_iff.1 HR5.out).1).trans HR5.out
      clear d0 d1 d2 e0 e1 e2
      obtain ⟨d0, d1, d2, e0, e1, e2⟩ := Tri3C.cells ht6
      have hlt5 := (Array.getElem?_eq_some_iff.1 HT5.out).1
      have hbn : w.heap.size + 1 ≠ b := by have := HN5.out.1; have := (Array.getElem?_eq_some_iff.1 HB23.out).1; omega
      have HT7 := Lib.hid (tri3_set2 ht6 (.slice (some ⟨g6, 0, none⟩) z.length cap6))
      have HR7 := Lib.hid (show Tri3C (w6.setCell ⟨b, 2, none⟩ (.slice (some ⟨g6, 0, none⟩) z.length cap6)) (w.heap.size + 1) (.int .u32 0) (.int .i64 0) (.slice none 0 0) from (setCell_other w6 b 2 (w.heap.size + 1) _ hbn).trans hr6)
      have HO7 := Lib.hid (show OpsAt (w6.setCell ⟨b, 2, none⟩ (.slice (some ⟨g6, 0, none⟩) z.length cap6)) g6 z from ho6.is.of_block (setCell_other w6 b 2 g6 _ (fun e => by omega)))
      have HB7 := Lib.hid (show Below w3.heap.size w3 (w6.setCell ⟨b, 2, none⟩ (.slice (some ⟨g6, 0, none⟩) z.length cap6)) from (HB5.out.trans (hb6.mono HB5.out.size)).setCell HN5.out.1 _)
      have HC7 := Lib.hid hc6
      clear hg6 hc6 ho6 hb6 ht6 hr6 hlt5 hbn
      go_upto_region 9 with (fail)
      generalize w6.setCell ⟨b, 2, none⟩ (.slice (some ⟨g6, 0, none⟩) z.length cap6) = W7 at *
      clear d0 d1 d2 e0 e1 e2
      have HTz := HT7
      have HOz := HO7
      have HBz := HB7
      have HRz := HR7
      have hne9 := ops_not_tri HOz.out HC1.out.ne HRz.out
      obtain ⟨d0, d1, d2, e0, e1, e2⟩ := Tri3C.cells HTz.out
      obtain ⟨k0, k1, k2, l0, l1, l2⟩ := Tri3C.cells HRz.out
      have hrf := Tri3C.fill HRz.out (.int .u32 pc) (.int .i64 (many : Int)) (.slice (some ⟨g6, 0, none⟩) z.length cap6)
      have HOF := Lib.hid (HOz.out.of_block (fill3C_other W7 (.int .u32 pc) (.int .i64 (many : Int)) (.slice (some ⟨g6, 0, none⟩) z.length cap6) hne9))
      have HBF := Lib.hid (below_fill3C (HW3.out.trans (HBz.out.mono HW3.out.size)) (show w.heap.size ≤ w.heap.size + 1 by omega) (.int .u32 pc) (.int .i64 (many : Int)) (.slice (some ⟨g6, 0, none⟩) z.length cap6))
      clear hne9
      go_wp2_with fail
      change bodyPost _ _ _ _ _ (fill3C W7 (w.heap.size + 1) (.int .u32 pc) (.int .i64 (many : Int)) (.slice (some ⟨g6, 0, none⟩) z.length cap6))
      clear k0 k1 k2 l0 l1 l2 d0 d1 d2 e0 e1 e2
      generalize fill3C W7 (w.heap.size + 1) (.int .u32 pc) (.int .i64 (many : Int)) (.slice (some ⟨g6, 0, none⟩) z.length cap6) = W9 at *
      obtain ⟨y0, y1, y2, _, _, _⟩ := Tri3C.cells hrf
      refine bodyPost_ret (v := .tuple #[codeV pc many (.slice (some ⟨g6, 0, none⟩) z.length cap6), .nilIface]) (by simp [codeV, results, Tryz.results7, go_sem, y0, y1, y2]) rfl ⟨g6, cap6, rfl, HC7.out, HOF.out, HBF.out⟩
    · have hz0 : sweepZ (foldZ noF ops) = z := HZ.out
      obtain ⟨d0, d1, d2, e0, e1, e2⟩ := Tri3C.cells HT5.out
      go_wp2_with fail
      refine (fold_any HO5.out.is HC.out.ne HC.out.len (fun o ho => (HC.out.good o ho).2)).mono ?_
      intro e w6 h6
      obtain ⟨g6, cap6, rfl, hg6, hc6, ho6, hb6⟩ := h6
      have HC1 := Lib.hid (SameL.ok (foldZ_same ops noF noF_ok (fun o ho => (HC.out.good o ho).2)) HC.out)
      generalize foldZ noF ops = z1 at HC1 hc6 ho6 hz0 ⊢
      have ht6 : Tri3C w6 b _ _ _ := (hb6.block _ (Array.getElem?_eq_some_iff.1 HT5.out).1).trans HT5.out
      have hr6 : Tri3C w6 (w.heap.size + 1) _ _ _ := (hb6.block _ (Array.getElem?_eq_some_iff.1 HR5.out).1).trans HR5.out
      clear d0 d1 d2 e0 e1 e2
      obtain ⟨d0, d1, d2, e0, e1, e2⟩ := Tri3C.cells ht6
      have hlt5 := (Array.getElem?_eq_some_iff.1 HT5.out).1
      have hbn : w.heap.size + 1 ≠ b := by have := HN5.out.1; have := (Array.getElem?_eq_some_iff.1 HB23.out).1; omega
      have HT7 := Lib.hid (tri3_set2 ht6 (.slice (some ⟨g6, 0, none⟩) z1.length cap6))
      have HR7 := Lib.hid (show Tri3C (w6.setCell ⟨b, 2, none⟩ (.slice (some ⟨g6, 0, none⟩) z1.length cap6)) (w.heap.size + 1) (.int .u32 0) (.int .i64 0) (.slice none 0 0) from (setCell_other w6 b 2 (w.heap.size + 1) _ hbn).trans hr6)
      have HO7 := Lib.hid (show OpsAt (w6.setCell ⟨b, 2, none⟩ (.slice (some ⟨g6, 0, none⟩) z1.length cap6)) g6 z1 from ho6.is.of_block (setCell_other w6 b 2 g6 _ (fun e => by omega)))
      have HB7 := Lib.hid (show Below w3.heap.size w3 (w6.setCell ⟨b, 2, none⟩ (.slice (some ⟨g6, 0, none⟩) z1.length cap6)) from (HB5.out.trans (hb6.mono HB5.out.size)).setCell HN5.out.1 _)
      have HC7 := Lib.hid hc6
      clear hg6 hc6 ho6 hb6 ht6 hr6 hlt5 hbn
      go_upto_region 9 with (fail)
      generalize w6.setCell ⟨b, 2, none⟩ (.slice (some ⟨g6, 0, none⟩) z1.length cap6) = W7 at *
      clear d0 d1 d2 e0 e1 e2
      obtain ⟨d0, d1, d2, e0, e1, e2⟩ := Tri3C.cells HT7.out
      go_wp2_with fail
      refine (sweep_any HO7.out HC1.out HC7.out).mono ?_
      intro e w8 h8
      obtain ⟨g8, cap8, rfl, hc8, ho8, hb8⟩ := h8
      have HN8 := Lib.hid ((sweepN_ok (fun _ => false) z1.length z1 HC1.out).1.ne)
      have hnz : sweepN z1.length z1 = sweepZ z1 := rfl
      rw [hnz] at HN8
      clear hnz
      rw [hz0] at HN8 hc8 ho8 ⊢
      have ht8 : Tri3C w8 b _ _ _ := (hb8.block _ (Array.getElem?_eq_some_iff.1 HT7.out).1).trans HT7.out
      have hr8 : Tri3C w8 (w.heap.size + 1) _ _ _ := (hb8.block _ (Array.getElem?_eq_some_iff.1 HR7.out).1).trans HR7.out
      clear d0 d1 d2 e0 e1 e2
      obtain ⟨d0, d1, d2, e0, e1, e2⟩ := Tri3C.cells ht8
      have hbn : w.heap.size + 1 ≠ b := by have := HN5.out.1; have := (Array.getElem?_eq_some_iff.1 HB23.out).1; omega
      have HT9 := Lib.hid (tri3_set2 ht8 (.slice (some ⟨g8, 0, none⟩) z.length cap8))
      have HR9 := Lib.hid (show Tri3C (w8.setCell ⟨b, 2, none⟩ (.slice (some ⟨g8, 0, none⟩) z.length cap8)) (w.heap.size + 1) (.int .u32 0) (.int .i64 0) (.slice none 0 0) from (setCell_other w8 b 2 (w.heap.size + 1) _ hbn).trans hr8)
      have HO9 := Lib.hid (show OpsAt (w8.setCell ⟨b, 2, none⟩ (.slice (some ⟨g8, 0, none⟩) z.length cap8)) g8 z from ho8.of_block (setCell_other w8 b 2 g8 _ (ops_not_tri ho8 HN8.out ht8)))
      have HB9 := Lib.hid (show Below w3.heap.size w3 (w8.setCell ⟨b, 2, none⟩ (.slice (some ⟨g8, 0, none⟩) z.length cap8)) from (HB7.out.trans (hb8.mono HB7.out.size)).setCell HN5.out.1 _)
      have HC9 := Lib.hid hc8
      clear hc8 ho8 hb8 ht8 hr8 hbn
      go_upto_region 11 with (fail)
      generalize w8.setCell ⟨b, 2, none⟩ (.slice (some ⟨g8, 0, none⟩) z.length cap8) = W9 at *
      clear d0 d1 d2 e0 e1 e2
      have HTz := HT9
      have HOz := HO9
      have HBz := HB9
      have HRz := HR9
      have hne9 := ops_not_tri HOz.out HN8.out HRz.out
      obtain ⟨d0, d1, d2, e0, e1, e2⟩ := Tri3C.cells HTz.out
      obtain ⟨k0, k1, k2, l0, l1, l2⟩ := Tri3C.cells HRz.out
      have hrf := Tri3C.fill HRz.out (.int .u32 pc) (.int .i64 (many : Int)) (.slice (some ⟨g8, 0, none⟩) z.length cap8)
      have HOF := Lib.hid (HOz.out.of_block (fill3C_other W9 (.int .u32 pc) (.int .i64 (many : Int)) (.slice (some ⟨g8, 0, none⟩) z.length cap8) hne9))
      have HBF := Lib.hid (below_fill3C (HW3.out.trans (HBz.out.mono HW3.out.size)) (show w.heap.size ≤ w.heap.size + 1 by omega) (.int .u32 pc) (.int .i64 (many : Int)) (.slice (some ⟨g8, 0, none⟩) z.length cap8))
      clear hne9
      go_wp2_with fail
      change bodyPost _ _ _ _ _ (fill3C W9 (w.heap.size + 1) (.int .u32 pc) (.int .i64 (many : Int)) (.slice (some ⟨g8, 0, none⟩) z.length cap8))
      clear k0 k1 k2 l0 l1 l2 d0 d1 d2 e0 e1 e2
      generalize fill3C W9 (w.heap.size + 1) (.int .u32 pc) (.int .i64 (many : Int)) (.slice (some ⟨g8, 0, none⟩) z.length cap8) = WX at *
      obtain ⟨y0, y1, y2, _, _, _⟩ := Tri3C.cells hrf
      refine bodyPost_ret (v := .tuple #[codeV pc many (.slice (some ⟨g8, 0, none⟩) z.length cap8), .nilIface]) (by simp [codeV, results, Tryz.results7, go_sem, y0, y1, y2]) rfl ⟨g8, cap8, rfl, HC9.out, HOF.out, HBF.out⟩
end Go.Proofs.YtlnefmgiiogcmaaGreatDoor
namespace Go.Proofs.YtlnefmgiiogcmaaGreatDoor
open Go.RowKit
section
variable {P : Program}
theorem eqItems_self (w : World) (d : Nat) (e : TypeId) (c : Nat) (xs : Array Value) : ∀ is : List Nat, (∀ i ∈ is, ∃ a, (part e xs (i * c)).run P w = .ok a w ∧ (Op.equalIn d e a a).run P w = .ok true w) → (Op.eqItems d e c xs xs is).run P w = .ok true w
  | [], _ => by simp [Op.eqItems]
  | i :: is, h => by
    obtain ⟨a, h1, h2⟩ := h i (List.mem_cons_self ..)
    simp only [Op.eqItems, Sem.run_bind, h1, h2, Result.andThen_ok]
    simpa using eqItems_self w d e c xs is (fun j hj => h j (List.mem_cons_of_mem _ hj))
theorem eqFields_self (w : World) (d : Nat) (xs : Array Value) : ∀ fs : List Field, (∀ f ∈ fs, ∃ a, (part f.type xs f.offset).run P w = .ok a w ∧ (Op.equalIn d f.type a a).run P w = .ok true w) → (Op.eqFields d xs xs fs).run P w = .ok true w
  | [], _ => by simp [Op.eqFields]
  | f :: fs, h => by
    obtain ⟨a, h1, h2⟩ := h f (List.mem_cons_self ..)
    have ih := eqFields_self w d xs fs (fun j hj => h j (List.mem_cons_of_mem _ hj))
    unfold Op.eqFields
    split
    · simp only [Sem.run_bind, h1, h2, Result.andThen_ok]
      simpa using ih
    · exact ih
end
def fieldOK (f : Field) : Bool := (f.offset == 0 && f.type == 24) || (f.type == 22 && decide (32 ≤ f.offset) && decide (f.offset < 42) && f.offset != 36) || (f.type == 4 && f.offset == 36) || (f.type == 3 && f.offset == 42)
theorem fieldsSt : (Tryz.prog.fieldsOf 26).toList.all fieldOK = true := by kernel_rfl
theorem structSt : Tryz.prog.underlying 26 = some (.struct (Tryz.prog.fieldsOf 26)) := by kernel_rfl
theorem heldSt : Tryz.prog.stoodInHeld 26 = false := by kernel_rfl
theorem infoArr : ∃ i, Tryz.prog.info? 22 = some i := info_of_underlying Tryz.underlying22
theorem cellsU : Tryz.prog.cellsOf 22 = 1 := by kernel_rfl
theorem plainU : Tryz.prog.plainKey 22 = true := by kernel_rfl
theorem plainB : Tryz.prog.plainKey 4 = true := by kernel_rfl
theorem plainI : Tryz.prog.plainKey 3 = true := by kernel_rfl
theorem infoR32 : (Tryz.prog.info? 24).map (·.size) = some 32 := by kernel_rfl
theorem stG_u (s : StF) {k : Nat} (h1 : 32 ≤ k) (h2 : k < 42) (h3 : k ≠ 36) : ∃ z, stG s k = .int .u32 z := by
  have : k = 32 ∨ k = 33 ∨ k = 34 ∨ k = 35 ∨ k = 37 ∨ k = 38 ∨ k = 39 ∨ k = 40 ∨ k = 41 := by omega
  rcases this with rfl | rfl | rfl | rfl | rfl | rfl | rfl | rfl | rfl <;> exact ⟨_, rfl⟩
theorem stL_get (s : StF) {k : Nat} (hk : k < 43) : (stL s).toArray[k]? = some (stG s k) := by
  rw [List.getElem?_toArray]
  exact stL_at s hk
theorem eqlSt (s : StF) (w : World) : (Op.equalIn 10000 26 (.agg (stL s).toArray) (.agg (stL s).toArray)).run Tryz.prog w = .ok true w := by
  rw [show (10000 : Nat) = 9999 + 1 from rfl, run_equalIn_struct w 9999 26 _ _ structSt heldSt]
  refine eqFields_self w 9999 _ _ (fun f hf => ?_)
  have h := List.all_eq_true.1 fieldsSt f hf
  unfold fieldOK at h
  simp only [Bool.or_eq_true, Bool.and_eq_true, beq_iff_eq, bne_iff_ne, decide_eq_true_eq] at h
  rcases h with ((⟨e1, e2⟩ | ⟨⟨⟨e1, e2⟩, e3⟩, e4⟩) | ⟨e1, e2⟩) | ⟨e1, e2⟩
  · rw [e1, e2]
    obtain ⟨i, hi⟩ := infoArr
    have hsz : (Tryz.prog.info? 24).map (·.size) = some 32 := infoR32
    obtain ⟨j, hj⟩ : ∃ j, Tryz.prog.info? 24 = some j := by
      cases hq : Tryz.prog.info? 24 with
      | none => rw [hq] at hsz; cases hsz
      | some j => exact ⟨j, rfl⟩
    have hjs : j.size = 32 := by rw [hj] at hsz; simpa using hsz
    refine ⟨.agg ((stL s).toArray.extract 0 32), ?_, ?_⟩
    · simp [part, isAgg, run_underlying Tryz.underlying24, run_sizeOf w hj, Program.cellsOf, hj, hjs]
    · rw [show (9999 : Nat) = 9998 + 1 from rfl, run_equalIn_array w 9998 _ _ Tryz.underlying24 hi]
      refine eqItems_self w 9998 _ _ _ _ (fun k hk => ?_)
      have hk2 : k < 32 := List.mem_range.1 hk
      have hv : ((stL s).toArray.extract 0 32)[k * Tryz.prog.cellsOf 22]? = some (.int .u32 (s.r k)) := by
        rw [cellsU, Nat.mul_one, Array.getElem?_extract, if_pos (by simp [stL_len]; omega), Nat.zero_add, stL_get s (by omega)]
        unfold stG
        rw [if_pos hk2]
      exact ⟨_, run_part_plain w plainU hv, by rw [show (9998 : Nat) = 9997 + 1 from rfl, run_equalIn_int w 9997 _ _ _ _ _ Tryz.underlying22]; simp⟩
  · obtain ⟨z, hz⟩ := stG_u s e2 e3 e4
    rw [e1]
    exact ⟨_, run_part_plain w plainU (stL_get s (by omega)), by rw [hz, show (9999 : Nat) = 9998 + 1 from rfl, run_equalIn_int w 9998 _ _ _ _ _ Tryz.underlying22]; simp⟩
  · rw [e1, e2]
    exact ⟨_, run_part_plain w plainB (stL_get s (by omega)), by rw [show stG s 36 = .bool s.slot from rfl, show (9999 : Nat) = 9998 + 1 from rfl, run_equalIn_bool' w 9998 _ _ _ Tryz.underlying4]; simp⟩
  · rw [e1, e2]
    exact ⟨_, run_part_plain w plainI (stL_get s (by omega)), by rw [show stG s 42 = .int .i64 s.count from rfl, show (9999 : Nat) = 9998 + 1 from rfl, run_equalIn_int w 9998 _ _ _ _ _ Tryz.underlying3]; simp⟩
end Go.Proofs.YtlnefmgiiogcmaaGreatDoor
namespace Go.Proofs.YtlnefmgiiogcmaaGreatDoor
open Go.RowKit
def ArgW (w : World) (v : Value) (zs : List Int) : Prop :=
  ∃ p cap, v = .slice p zs.length cap ∧ ∀ j (h : j < zs.length), ∃ a, p = some a ∧ w.cell? (a.add j) = some (.int .u32 zs[j])
theorem ArgW.below {w w' : World} {v : Value} {zs : List Int} (h : ArgW w v zs) (hb : Below w.heap.size w w') : ArgW w' v zs := by
  obtain ⟨p, cap, h1, h2⟩ := h
  refine ⟨p, cap, h1, fun j hj => ?_⟩
  obtain ⟨a, e, hc⟩ := h2 j hj
  exact ⟨a, e, (hb.cell (World.block_lt_of_cell? _ _ hc)).trans hc⟩
set_option maxHeartbeats 1000000 in
theorem alike_same (zs : List Int) (hl : zs.length ≤ 5000) (v1 v2 : Value) (w : World) (h1 : ArgW w v1 zs) (h2 : ArgW w v2 zs) :
    Calls Tryz.prog 13 #[v1, v2] w fun e w' => e = .returned (.int .i64 1) ∧ ∃ k, w' = w.drewN k := by
  obtain ⟨p, cap, rfl, hc1⟩ := h1
  obtain ⟨q, cap2, rfl, hc2⟩ := h2
  have H1 := Lib.hid hc1
  have H2 := Lib.hid hc2
  clear hc1 hc2
  go_enter Tryz.func13, Tryz.ntmps13
  go_wp2_with fail
  go_loopw [5] (fun kv wr => ∃ j k : Nat, j ≤ zs.length ∧ kv = .int .i64 (j : Int) ∧ wr = w.drewN k) (fun kv _ => zs.length - (intOf kv).toNat)
  case atStart => exact ⟨0, 0, Nat.zero_le _, rfl, by simp [World.drewN_zero]⟩
  case round =>
    obtain ⟨j, k, hj, rfl, rfl⟩ := hrel
    by_cases hlt : j < zs.length
    · obtain ⟨a, rfl, ha⟩ := H1.out j hlt
      obtain ⟨b, rfl, hb⟩ := H2.out j hlt
      have hjl : (j : Int) < (zs.length : Int) := by go_light; omega
      have ha2 : (w.drewN k).cell? (a.add j) = some (.int .u32 zs[j]) := ha
      have hb2 : (w.drewN k).cell? (b.add j) = some (.int .u32 zs[j]) := hb
      generalize zs[j] = z at *
      have hz := Tryz.underlying22
      go_wp2_with fail
      go_quiet (fail)
      go_wp2
      go_roundw
      case rel => exact ⟨j + 1, _, hlt, by go_num, rfl⟩
      case measure => go_light; simp [intOf]; omega
    · have hje : j = zs.length := by go_light; omega
      subst hje
      clear hlt
      go_wp2
      go_ret
      exact ⟨rfl, _, rfl⟩
end Go.Proofs.YtlnefmgiiogcmaaGreatDoor
