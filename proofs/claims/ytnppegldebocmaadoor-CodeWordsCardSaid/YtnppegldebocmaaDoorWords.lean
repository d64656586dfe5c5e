/- The walk of changelinglaw1.CodeWords: it answers true. Conditions: as the theorem states. -/
import Derived.Test.YtnppegldebocmaaDoorDecOf
import Derived.Test.YtnppegldebocmaaDoorBackP
import Derived.Deep.RegionHeld3
import Derived.Deep.QuietTactic
import Derived.BigQuiet
namespace Go.Proofs.YtnppegldebocmaaDoor
open Go.RowKit
theorem enc_both (i : InsN) (hi : i.Fits) (ad : Nat → Addr) : ∃ (v c : Int) (e : Value),
    (∀ w, Sents w ad → Calls Tryd.prog 17 #[insV i] w fun en w' => en = .returned (.tuple #[.int .u32 v, e]) ∧ Below w.heap.size w w') ∧
    (∀ w, Calls Tryd.prog 21 #[insV i] w fun en w' => en = .returned (.tuple #[.int .u32 v, .int .i64 c]) ∧ Below w.heap.size w w') ∧
    (∀ w, Sents w ad → Calls Tryd.prog 19 #[e, .int .i64 c] w fun en w' => en = .returned (.bool true) ∧ Below w.heap.size w w') := by
  by_cases hlow : i.op ≤ 0 ∨ 54 ≤ i.op
  · exact ⟨0, 4, _, fun w hS => encode_none i (name_none i.op hlow) _ _ w hS.c3 hS.c1, fun w => encof_kind i.op (by omega) _ _ _ _ w, fun w hS => coded_yes 3 (by decide) 4 (by decide) ad w hS⟩
  · obtain ⟨m, hm⟩ := Int.eq_ofNat_of_zero_le (a := i.op) (by omega)
    have hn : (nameS i.op).toList.isEmpty = false := by rw [hm]; exact name_full m (by omega) (by omega)
    cases hb : encBad i
    · refine ⟨encL i (fieldsB i.op.toNat), 0, .nilIface, fun w hS => (encode_some i hi hn _ _ w hS.c3 hS.c1).mono fun en w' h => ⟨by rw [h.1, encRes_good hb], h.2⟩, fun w => ?_, fun w _ => (coded_nil w).mono fun en w' h => ⟨h.1, by rw [h.2]; exact Below.refl _ _⟩⟩
      obtain ⟨op, s, t, d, im⟩ := i
      simp only at hm
      subst hm
      exact encOf_good (m : Int) s t d im m (by simp only at hlow; omega) (by simp only at hlow; omega) rfl hi.m0 hb w
    · refine ⟨0, 2, .iface 171 (.pointer (some (ad 1))), fun w hS => (encode_some i hi hn _ _ w hS.c3 hS.c1).mono fun en w' h => ⟨by rw [h.1, encRes_bad hb], h.2⟩, fun w => ?_, fun w hS => coded_yes 1 (by decide) 2 (by decide) ad w hS⟩
      obtain ⟨op, s, t, d, im⟩ := i
      simp only at hm
      exact encOf_bad op s t d im m (by simp only at hlow; omega) (by simp only at hlow; omega) hm hi.m0 hi.m1 hb w
theorem rowOf_gen (op : Int) : ∃ (nm od kd : Value) (ma mi : Int), ∀ w, Calls Tryd.prog 23 #[.int .i64 op] w fun e w' => e = .returned (.agg #[nm, .int .i64 ma, .int .i64 mi, .string (fieldsS op), od, kd]) ∧ Below w.heap.size w w' := by
  by_cases h : 1 ≤ op ∧ op < 54
  · obtain ⟨k, rfl⟩ := Int.eq_ofNat_of_zero_le (a := op) (by omega)
    exact ⟨_, _, _, _, _, fun w => rowOf_at k (by omega) (by omega) w⟩
  · have hf : fieldsS op = ⟨#[]⟩ := by
      unfold fieldsS
      by_cases h0 : op.toNat = 0
      · rw [h0]; rfl
      · rw [fieldsB_big op.toNat (by omega)]; rfl
    rw [hf]
    exact ⟨_, _, _, _, _, fun w => rowOf_none op (by omega) w⟩
theorem kindOf_gen (op : Int) (w : World) : Calls Tryd.prog 24 #[.int .i64 op] w fun e w' => e = .returned (.string (bsl (kindOfB op))) ∧ Below w.heap.size w w' := by
  by_cases h0 : op = 0
  · subst h0; exact kindOf_zero w
  · unfold kindOfB
    rw [if_neg h0]
    by_cases h : 1 ≤ op ∧ op < 54
    · obtain ⟨k, rfl⟩ := Int.eq_ofNat_of_zero_le (a := op) (by omega)
      exact kindOf_at k (by omega) (by omega) w
    · have hf : bsl (kindB op.toNat) = ⟨#[]⟩ := by
        by_cases h1 : op.toNat = 0
        · rw [h1]; rfl
        · rw [kindB_big op.toNat (by omega)]; rfl
      rw [hf]
      exact kindOf_none op (by omega) w
set_option maxHeartbeats 2000000 in
theorem words_any (x : Nat) (hx : x < 4294967296) (i : InsN) (hi : i.Fits) (op : Int) (ad : Nat → Addr) (w : World) (hS : Sents w ad) :
    Calls Tryd.prog 6 #[.int .u32 (x : Int), insV i, .int .i64 op] w fun e w' => e = .returned (.bool true) ∧ Below w.heap.size w w' := by
  obtain ⟨v, c, ev, hE, hO, hC⟩ := enc_both i hi ad
  obtain ⟨nm, od, kd, ma, mi, hR⟩ := rowOf_gen op
  have HE := Lib.hid hE
  have HO := Lib.hid hO
  have HC := Lib.hid hC
  have HR := Lib.hid hR
  have hfd : ∀ w : World, (Instr.field 52 (.agg #[nm, .int .i64 ma, .int .i64 mi, .string (fieldsS op), od, kd]) 3).run Tryd.prog w = .ok (.string (fieldsS op)) w := fun _ => by kernel_rfl
  have HX := Lib.hid (show (0 : Int) ≤ (x : Int) ∧ (x : Int) < 4294967296 by omega)
  have HX2 := Lib.hid hx
  clear hE hO hC hR hi hx
  go_enter Tryd.func6, Tryd.ntmps6
  go_wp2_with fail
  have hP := Five.new w (.int .i64 i.op) (.int .i64 i.s) (.int .i64 i.t) (.int .i64 i.d) (.int .u32 i.imm) 25
  have hB : Below w.heap.size w (w.alloc (.cells #[.int .i64 i.op, .int .i64 i.s, .int .i64 i.t, .int .i64 i.d, .int .u32 i.imm] 25)) := (Below.refl _ _).alloc (Nat.le_refl _) _
  have hS0 := hS.below hB
  clear hS
  generalize w.alloc (.cells #[.int .i64 i.op, .int .i64 i.s, .int .i64 i.t, .int .i64 i.d, .int .u32 i.imm] 25) = wa at *
  refine (coding_ok _ _ _ hS0.c3 hS0.c1).mono ?_
  rintro e w1 ⟨rfl, hb1⟩
  have hS1 := hS0.below hb1
  have hB1 := hB.trans (hb1.mono hB.size)
  have hP1 := hP.below hb1 hP.lt
  clear hS0 hB hP hb1
  go_wp2_with fail
  refine (decode_any (x : Int) HX.out.1 HX.out.2 _).mono ?_
  rintro e w2 ⟨rfl, hb2⟩
  go_wp2_with fail
  have hF := Five.new w2 (.int .i64 (decZ x).op) (.int .i64 (decZ x).s) (.int .i64 (decZ x).t) (.int .i64 (decZ x).d) (.int .u32 (decZ x).imm) 25
  have hc := hb2.alloc hb2.size (.cells #[.int .i64 (decZ x).op, .int .i64 (decZ x).s, .int .i64 (decZ x).t, .int .i64 (decZ x).d, .int .u32 (decZ x).imm] 25)
  have hS2 := Lib.hid (hS1.below hc)
  have hB2 := Lib.hid (hB1.trans (hc.mono hB1.size))
  have hP2 := Lib.hid (hP1.below hc hP1.lt)
  clear hS1 hB1 hP1 hb2 hc
  generalize w2.alloc (.cells #[.int .i64 (decZ x).op, .int .i64 (decZ x).s, .int .i64 (decZ x).t, .int .i64 (decZ x).d, .int .u32 (decZ x).imm] 25) = wb at *
  generalize w2.heap.size = bd at *
  have hlz := hF.lt
  obtain ⟨p0, p1, p2', p3, p4⟩ := hF.cells
  clear hF
  have HD : Hid (∀ W, Calls Tryd.prog 20 #[.int .u32 (x : Int)] W fun e w' => e = .returned (insV (decZ (x : Int))) ∧ Below W.heap.size W w') := fun W => decodeOf_any x HX2.out W
  generalize decZ (x : Int) = y at *
  go_region_held3 (fun w' => (w'.cell? ⟨bd, 0, none⟩ = some (.int .i64 y.op) ∧ w'.cell? ⟨bd, 1, none⟩ = some (.int .i64 y.s) ∧ w'.cell? ⟨bd, 2, none⟩ = some (.int .i64 y.t) ∧ w'.cell? ⟨bd, 3, none⟩ = some (.int .i64 y.d) ∧ w'.cell? ⟨bd, 4, none⟩ = some (.int .u32 y.imm) ∧ bd < w'.heap.size ∧ Below wb.heap.size wb w'))
    ((go_split_ands; refine ⟨?_, ?_, ?_, ?_, ?_, ?_, ?_⟩ <;> (first | assumption | (rw [hb9.cell (by assumption)]; assumption) | (have := hb9.size; omega) | exact (Below.refl _ _).drew | exact Below.trans (by assumption) (hb9.mono (Below.size (by assumption))) | (simp [go_sem, *]; done))))
    ((go_at_call 20; refine (HD.out _).mono ?_; rintro e w' ⟨rfl, hb9⟩))
  go_split_ands
  have hb10 : Below wb.heap.size wb w' := by assumption
  have hS3 := hS2.out.below hb10
  have hB3 := hB2.out.trans (hb10.mono hB2.out.size)
  have hP3 := hP2.out.below hb10 hP2.out.lt
  clear p0 p1 p2' p3 p4 hS2 hB2 hP2 hlz HD
  obtain ⟨g0, g1, g2, g3, g4⟩ := hP3.cells
  go_wp2_with fail
  refine (HE.out _ hS3).mono ?_
  rintro e w3 ⟨rfl, hb3⟩
  have hS4 := hS3.below hb3
  have hB4 := hB3.trans (hb3.mono hB3.size)
  have hP4 := hP3.below hb3 hP3.lt
  clear hS3 hB3 hP3 hb3 g0 g1 g2 g3 g4
  obtain ⟨g0, g1, g2, g3, g4⟩ := hP4.cells
  go_wp2_with fail
  refine (HO.out _).mono ?_
  rintro e w4 ⟨rfl, hb4⟩
  have hS5 := hS4.below hb4
  have hB5 := hB4.trans (hb4.mono hB4.size)
  clear hS4 hB4 hP4 hb4 g0 g1 g2 g3 g4
  go_wp2_with fail
  refine (HC.out _ hS5).mono ?_
  rintro e w5 ⟨rfl, hb5⟩
  have hB6 := hB5.trans (hb5.mono hB5.size)
  clear hS5 hB5 hb5
  go_wp2_with fail
  refine (fields_any op _).mono ?_
  rintro e w6 ⟨rfl, hb6⟩
  have hB7 := hB6.trans (hb6.mono hB6.size)
  clear hB6 hb6
  go_wp2_with fail
  refine (HR.out _).mono ?_
  rintro e w7 ⟨rfl, hb7⟩
  have hB8 := hB7.trans (hb7.mono hB7.size)
  clear hB7 hb7
  go_wp2_with fail
  refine (kindOf_any op _).mono ?_
  rintro e w8 ⟨rfl, hb8⟩
  have hB9 := hB8.trans (hb8.mono hB8.size)
  clear hB8 hb8
  go_wp2_with fail
  refine (kindOf_gen op _).mono ?_
  rintro e w9 ⟨rfl, hb9⟩
  have hB10 := hB9.trans (hb9.mono hB9.size)
  clear hB9 hb9
  go_wp2
  go_ret
  exact ⟨rfl, hB10⟩
end Go.Proofs.YtnppegldebocmaaDoor
