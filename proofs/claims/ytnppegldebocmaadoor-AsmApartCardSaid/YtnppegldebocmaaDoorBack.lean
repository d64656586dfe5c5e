/- The walk of changelinglaw1.CodeBack: it answers true. Conditions: as the theorem states. -/
import Derived.Test.YtnppegldebocmaaDoorBackP
import Derived.Deep.RegionHeld3
import Derived.Deep.QuietTactic
import Derived.BigQuiet
namespace Go.Proofs.YtnppegldebocmaaDoor
open Go.RowKit
theorem enc_range (i : InsN) (k : Nat) (hk : k < 54) (hop : i.op = (k : Int)) (h : encBad i = false) : 0 ≤ encL i (fieldsB k) ∧ encL i (fieldsB k) < 4294967296 := by
  obtain ⟨h1, h2, h3⟩ := good_parts i k hop h
  obtain ⟨e1, e2, e3, e4⟩ := enc_parts i k hk hop h1
  rw [e1]
  omega
theorem dec_as (y : Int) (h0 : 0 ≤ y) (h1 : y < 4294967296) (i : InsN) (h : decZ y = i) (w : World) : Calls Tryd.prog 9 #[.int .u32 y] w fun e w' => e = .returned (insV i) ∧ Below w.heap.size w w' := by
  subst h
  exact decode_any y h0 h1 w
set_option maxHeartbeats 2000000 in
theorem back_any (x : Int) (h0 : 0 ≤ x) (h1 : x < 4294967296) (i : InsN) (hi : i.Fits) (ad : Nat → Addr) (w : World) (hS : Sents w ad) :
    Calls Tryd.prog 5 #[.int .u32 x, insV i] w fun e w' => e = .returned (.bool true) ∧ Below w.heap.size w w' := by
  go_enter Tryd.func5, Tryd.ntmps5
  go_wp2_with fail
  have hP := Five.new w (.int .i64 i.op) (.int .i64 i.s) (.int .i64 i.t) (.int .i64 i.d) (.int .u32 i.imm) 25
  have hB : Below w.heap.size w (w.alloc (.cells #[.int .i64 i.op, .int .i64 i.s, .int .i64 i.t, .int .i64 i.d, .int .u32 i.imm] 25)) := (Below.refl _ _).alloc (Nat.le_refl _) _
  have hS0 := hS.below hB
  clear hS
  generalize w.alloc (.cells #[.int .i64 i.op, .int .i64 i.s, .int .i64 i.t, .int .i64 i.d, .int .u32 i.imm] 25) = wa at *
  refine (coding_ok _ _ _ hS0.c3 hS0.c1).mono ?_
  rintro e w1 ⟨rfl, hb1⟩
  have hS1 := hS0.below hb1
  have hB1 := hB.trans (hb1.mono hB.size)
  have hP1 := hP.below hb1 hP.lt
  clear hS0 hB hP hb1
  go_wp2_with fail
  refine (decode_any x h0 h1 _).mono ?_
  rintro e w2 ⟨rfl, hb2⟩
  go_wp2_with fail
  have hF := Five.new w2 (.int .i64 (decZ x).op) (.int .i64 (decZ x).s) (.int .i64 (decZ x).t) (.int .i64 (decZ x).d) (.int .u32 (decZ x).imm) 25
  have hc := hb2.alloc hb2.size (.cells #[.int .i64 (decZ x).op, .int .i64 (decZ x).s, .int .i64 (decZ x).t, .int .i64 (decZ x).d, .int .u32 (decZ x).imm] 25)
  have hS2 := hS1.below hc
  have hB2 := hB1.trans (hc.mono hB1.size)
  have hP2 := hP1.below hc hP1.lt
  clear hS1 hB1 hP1 hb2 hc
  generalize w2.alloc (.cells #[.int .i64 (decZ x).op, .int .i64 (decZ x).s, .int .i64 (decZ x).t, .int .i64 (decZ x).d, .int .u32 (decZ x).imm] 25) = wb at *
  generalize w2.heap.size = bd at *
  by_cases hz : (decZ x).op = 0
  · have hzz := decZ_zero x hz
    simp only [hzz] at hF
    rw [hzz]
    clear hz
    refine (encode_none ⟨0, 0, 0, 0, 0⟩ (name_none 0 (Or.inl (by decide))) _ _ _ hS2.c3 hS2.c1).mono ?_
    rintro e w3 ⟨rfl, hb3⟩
    have hS := hS2.below hb3
    have hB := hB2.trans (hb3.mono hB2.size)
    have hP := hP2.below hb3 hP2.lt
    have hF3 := hF.below hb3 hF.lt
    clear hS2 hB2 hP2 hF hb3 hzz
    obtain ⟨c0, c1, c2, c3, c4⟩ := hF3.cells
    go_wp2_with fail
    refine (coded_yes 3 (by decide) 4 (by decide) ad _ hS).mono ?_
    rintro e w4 ⟨rfl, hb4⟩
    have hS4 := hS.below hb4
    have hB4 := hB.trans (hb4.mono hB.size)
    have hP4 := hP.below hb4 hP.lt
    have hF4 := hF3.below hb4 hF3.lt
    clear hS hB hP hF3 hb4 c0 c1 c2 c3 c4
    obtain ⟨c0, c1, c2, c3, c4⟩ := hF4.cells
    have hS := hS4
    have hB := hB4
    have hP := hP4
    clear hS4 hB4 hP4
    obtain ⟨g0, g1, g2, g3, g4⟩ := hP.cells
    by_cases hlow : i.op ≤ 0 ∨ 54 ≤ i.op
    · have hn := name_none i.op hlow
      go_wp2_with fail
      refine (encode_none i hn _ _ _ hS.c3 hS.c1).mono ?_
      rintro e wz ⟨rfl, hbz⟩
      have hBz := hB.trans (hbz.mono hB.size)
      clear g0 g1 g2 g3 g4 hP hS hB hbz
      go_wp2
      go_ret
      exact ⟨rfl, hBz⟩
    · obtain ⟨m, hm⟩ := Int.eq_ofNat_of_zero_le (a := i.op) (by omega)
      have hn : (nameS i.op).toList.isEmpty = false := by rw [hm]; exact name_full m (by omega) (by omega)
      have hmm : m < 54 := by omega
      have hm1 : 1 ≤ m := by omega
      have HM := Lib.hid hm
      clear hm hlow
      by_cases hbad : encBad i = true
      · go_wp2_with fail
        refine (encode_some i hi hn _ _ _ hS.c3 hS.c1).mono ?_
        rintro e wz ⟨rfl, hbz⟩
        rw [encRes_bad hbad]
        have hBz := hB.trans (hbz.mono hB.size)
        clear g0 g1 g2 g3 g4 hP hS hB hbz
        go_wp2
        go_ret
        exact ⟨rfl, hBz⟩
      · have hgood : encBad i = false := Bool.eq_false_iff.2 hbad
        have HRT := Lib.hid (dec_of_enc i m hm1 hmm HM.out hi.m0 hgood)
        obtain ⟨q1, q2⟩ := enc_range i m hmm HM.out hgood
        go_wp2_with fail
        refine (encode_some i hi hn _ _ _ hS.c3 hS.c1).mono ?_
        rintro e wz ⟨rfl, hbz⟩
        rw [encRes_good hgood, HM.out]
        simp only [Int.toNat_natCast]
        have hBz := hB.trans (hbz.mono hB.size)
        have hPz := hP.below hbz hP.lt
        clear g0 g1 g2 g3 g4 hP hS hB hbz
        have hD := fun wq => dec_as (encL i (fieldsB m)) q1 q2 i HRT.out wq
        have HD := Lib.hid hD
        clear hD
        obtain ⟨p0, p1, p2', p3, p4⟩ := hPz.cells
        have hlz := hPz.lt
        go_wp2_with fail
        go_region_held3 (fun w' => (w'.cell? ⟨w.heap.size, 0, none⟩ = some (.int .i64 i.op) ∧ w'.cell? ⟨w.heap.size, 1, none⟩ = some (.int .i64 i.s) ∧ w'.cell? ⟨w.heap.size, 2, none⟩ = some (.int .i64 i.t) ∧ w'.cell? ⟨w.heap.size, 3, none⟩ = some (.int .i64 i.d) ∧ w'.cell? ⟨w.heap.size, 4, none⟩ = some (.int .u32 i.imm) ∧ w.heap.size < w'.heap.size ∧ Below wz.heap.size wz w'))
          ((go_split_ands; refine ⟨?_, ?_, ?_, ?_, ?_, ?_, ?_⟩ <;> (first | assumption | (rw [hb9.cell (by assumption)]; assumption) | (have := hb9.size; omega) | exact (Below.refl _ _).drew | exact Below.trans (by assumption) (hb9.mono (Below.size (by assumption))) | (simp [go_sem, *]; done))))
          ((go_at_call 9; refine (HD.out _).mono ?_; rintro e w' ⟨rfl, hb9⟩))
        go_split_ands
        have hb10 : Below wz.heap.size wz w' := by assumption
        go_wp2
        go_ret
        exact ⟨rfl, hBz.trans (hb10.mono hBz.size)⟩
  · obtain ⟨k, hk1, hk, hhit, hdec⟩ : ∃ k : Nat, 1 ≤ k ∧ k < 54 ∧ hitB x (k : Int) = true ∧ decZ x = decAt x (k : Int) := by
      rcases decZ_cases x with e | e
      · exact absurd (by rw [e]) hz
      · exact e
    have hop : (decZ x).op = (k : Int) := by rw [hdec, decAt_op]
    have hz' : ((decZ x).op == 0) = false := beq_eq_false_iff_ne.2 hz
    obtain ⟨xn, rfl⟩ := Int.eq_ofNat_of_zero_le h0
    have hgx : encBad (decZ (xn : Int)) = false := by rw [hdec]; exact dec_good xn k
    have hex : encL (decZ (xn : Int)) (fieldsB (decZ (xn : Int)).op.toNat) = (xn : Int) := by
      rw [hop, hdec]
      exact enc_of_dec xn (by omega) k hhit
    refine (encode_some (decZ (xn : Int)) (decZ_fits _) (by rw [hop]; exact name_full k hk1 hk) _ _ _ hS2.c3 hS2.c1).mono ?_
    rintro e w3 ⟨rfl, hb3⟩
    rw [encRes_good hgx, hex]
    have hS := hS2.below hb3
    have hB := hB2.trans (hb3.mono hB2.size)
    have hP := hP2.below hb3 hP2.lt
    have hF3 := hF.below hb3 hF.lt
    clear hS2 hB2 hP2 hF hb3 hz hhit hdec hop hgx hex
    obtain ⟨c0, c1, c2, c3, c4⟩ := hF3.cells
    obtain ⟨g0, g1, g2, g3, g4⟩ := hP.cells
    by_cases hlow : i.op ≤ 0 ∨ 54 ≤ i.op
    · have hn := name_none i.op hlow
      go_wp2_with fail
      refine (encode_none i hn _ _ _ hS.c3 hS.c1).mono ?_
      rintro e wz ⟨rfl, hbz⟩
      have hBz := hB.trans (hbz.mono hB.size)
      clear g0 g1 g2 g3 g4 hP hS hB hbz
      go_wp2
      go_ret
      exact ⟨rfl, hBz⟩
    · obtain ⟨m, hm⟩ := Int.eq_ofNat_of_zero_le (a := i.op) (by omega)
      have hn : (nameS i.op).toList.isEmpty = false := by rw [hm]; exact name_full m (by omega) (by omega)
      have hmm : m < 54 := by omega
      have hm1 : 1 ≤ m := by omega
      have HM := Lib.hid hm
      clear hm hlow
      by_cases hbad : encBad i = true
      · go_wp2_with fail
        refine (encode_some i hi hn _ _ _ hS.c3 hS.c1).mono ?_
        rintro e wz ⟨rfl, hbz⟩
        rw [encRes_bad hbad]
        have hBz := hB.trans (hbz.mono hB.size)
        clear g0 g1 g2 g3 g4 hP hS hB hbz
        go_wp2
        go_ret
        exact ⟨rfl, hBz⟩
      · have hgood : encBad i = false := Bool.eq_false_iff.2 hbad
        have HRT := Lib.hid (dec_of_enc i m hm1 hmm HM.out hi.m0 hgood)
        obtain ⟨q1, q2⟩ := enc_range i m hmm HM.out hgood
        go_wp2_with fail
        refine (encode_some i hi hn _ _ _ hS.c3 hS.c1).mono ?_
        rintro e wz ⟨rfl, hbz⟩
        rw [encRes_good hgood, HM.out]
        simp only [Int.toNat_natCast]
        have hBz := hB.trans (hbz.mono hB.size)
        have hPz := hP.below hbz hP.lt
        clear g0 g1 g2 g3 g4 hP hS hB hbz
        have hD := fun wq => dec_as (encL i (fieldsB m)) q1 q2 i HRT.out wq
        have HD := Lib.hid hD
        clear hD
        obtain ⟨p0, p1, p2', p3, p4⟩ := hPz.cells
        have hlz := hPz.lt
        go_wp2_with fail
        go_region_held3 (fun w' => (w'.cell? ⟨w.heap.size, 0, none⟩ = some (.int .i64 i.op) ∧ w'.cell? ⟨w.heap.size, 1, none⟩ = some (.int .i64 i.s) ∧ w'.cell? ⟨w.heap.size, 2, none⟩ = some (.int .i64 i.t) ∧ w'.cell? ⟨w.heap.size, 3, none⟩ = some (.int .i64 i.d) ∧ w'.cell? ⟨w.heap.size, 4, none⟩ = some (.int .u32 i.imm) ∧ w.heap.size < w'.heap.size ∧ Below wz.heap.size wz w'))
          ((go_split_ands; refine ⟨?_, ?_, ?_, ?_, ?_, ?_, ?_⟩ <;> (first | assumption | (rw [hb9.cell (by assumption)]; assumption) | (have := hb9.size; omega) | exact (Below.refl _ _).drew | exact Below.trans (by assumption) (hb9.mono (Below.size (by assumption))) | (simp [go_sem, *]; done))))
          ((go_at_call 9; refine (HD.out _).mono ?_; rintro e w' ⟨rfl, hb9⟩))
        go_split_ands
        have hb10 : Below wz.heap.size wz w' := by assumption
        go_wp2
        go_ret
        exact ⟨rfl, hBz.trans (hb10.mono hBz.size)⟩
end Go.Proofs.YtnppegldebocmaaDoor
