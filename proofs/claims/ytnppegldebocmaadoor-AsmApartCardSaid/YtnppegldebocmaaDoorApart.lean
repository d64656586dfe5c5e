/- The walks of changelinglaw1.texted and AsmApart: they answer true. Conditions: as the theorems state. -/
import Derived.Test.YtnppegldebocmaaDoorText
import Derived.Test.YtnppegldebocmaaDoorBack
namespace Go.Proofs.YtnppegldebocmaaDoor
open Go.RowKit
set_option linter.unusedVariables false
theorem texted_text : bsl (textB ⟨48, 4, 2, 0, 65532⟩) = ⟨#[108, 119, 32, 36, 50, 44, 32, 45, 52, 40, 36, 52, 41]⟩ := by
  have d : ∀ u : Nat, u < 10 → Lib.itoa (u : Int) = [UInt8.ofNat (48 + u)] := fun u h => by
    unfold Lib.itoa
    rw [if_neg (by omega), Int.toNat_natCast, Lib.decDigits_one h]
  have d2 := d 2 (by decide)
  have d4 := d 4 (by decide)
  have m4 : Lib.itoa (-4) = [45, 52] := by
    unfold Lib.itoa
    rw [if_pos (by decide), show (-4 : Int).natAbs = 4 from rfl, Lib.decDigits_one (by decide)]
    rfl
  have e : textB ⟨48, 4, 2, 0, 65532⟩ = [108, 119] ++ (32 :: Lib.join [36 :: Lib.itoa 2, Lib.itoa (-4) ++ ([40, 36] ++ (Lib.itoa 4 ++ [41]))] [44, 32]) := rfl
  rw [e, m4, show Lib.itoa 2 = _ from d2, show Lib.itoa 4 = _ from d4]
  rfl
theorem texted_ok (ad : Nat → Addr) (w : World) (hS : Two w ad) (hP : Pow w) :
    Calls Tryd.prog 25 #[] w fun e w' => e = .returned (.bool true) ∧ Below w.heap.size w w' := by
  have hT := text_good ⟨48, 4, 2, 0, 65532⟩ ⟨by decide, by decide, by decide, by decide, by decide, by decide, by decide, by decide, by decide, by decide⟩ 48 (by decide) (by decide) rfl (by decide +kernel) ad w hS hP
  rw [texted_text] at hT
  have HT := Lib.hid hT
  clear hT hS hP
  go_enter Tryd.func25, Tryd.ntmps25
  go_wp2_with fail
  refine HT.out.mono ?_
  rintro e w1 ⟨rfl, hb1⟩
  go_wp2
  go_ret
  exact ⟨rfl, hb1⟩
theorem bsl_list (l : List UInt8) : (bsl l).toList = l := by
  exact ByteArray.toList_mk l
/-- Has an instruction a word? -/
def goodI (i : InsN) : Prop := (1 ≤ i.op ∧ i.op < 54) ∧ encBad i = false
theorem text_no (i : InsN) (hi : i.Fits) (h : ¬ goodI i) (ad : Nat → Addr) : ∃ v : Value, ∀ w, Two w ad →
    Calls Tryd.prog 26 #[insV i] w fun e w' => e = .returned (.tuple #[.string ⟨#[]⟩, .iface 171 v]) ∧ Below w.heap.size w w' := by
  obtain ⟨q, _, hq⟩ := text_bad i hi (by
    unfold goodI at h
    by_cases hl : i.op ≤ 0 ∨ 54 ≤ i.op
    · exact Or.inl hl
    · refine Or.inr ?_
      cases hb : encBad i
      · exact absurd ⟨by omega, hb⟩ h
      · rfl) ad
  exact ⟨_, hq⟩
theorem text_yes (i : InsN) (hi : i.Fits) (h : goodI i) (ad : Nat → Addr) (w : World) (hS : Two w ad) (hP : Pow w) :
    Calls Tryd.prog 26 #[insV i] w fun e w' => e = .returned (.tuple #[.string (bsl (textB i)), .nilIface]) ∧ Below w.heap.size w w' := by
  obtain ⟨k, hk⟩ := Int.eq_ofNat_of_zero_le (a := i.op) (by have := h.1; omega)
  exact text_good i hi k (by have := h.1; omega) (by have := h.1; omega) hk h.2 ad w hS hP
theorem word_yes (i : InsN) (hi : i.Fits) (h : goodI i) (ad : Nat → Addr) (w : World) (hS : Two w ad) :
    Calls Tryd.prog 17 #[insV i] w fun e w' => e = .returned (.tuple #[.int .u32 (encL i (fieldsB i.op.toNat)), .nilIface]) ∧ Below w.heap.size w w' := by
  obtain ⟨k, hk⟩ := Int.eq_ofNat_of_zero_le (a := i.op) (by have := h.1; omega)
  have hn : (nameS i.op).toList.isEmpty = false := by rw [hk]; exact name_full k (by have := h.1; omega) (by have := h.1; omega)
  exact (encode_some i hi hn _ _ w hS.c3 hS.c1).mono fun e w' g => ⟨by rw [g.1, encRes_good h.2], g.2⟩
theorem good_inj (i j : InsN) (hi : goodI i) (hj : goodI j) (mi : 0 ≤ i.imm) (mj : 0 ≤ j.imm) (hne : i ≠ j) : textB i ≠ textB j ∧ encL i (fieldsB i.op.toNat) ≠ encL j (fieldsB j.op.toNat) := by
  obtain ⟨k, hk⟩ := Int.eq_ofNat_of_zero_le (a := i.op) (by have := hi.1; omega)
  obtain ⟨l, hl⟩ := Int.eq_ofNat_of_zero_le (a := j.op) (by have := hj.1; omega)
  have i1 := hi.1
  have j1 := hj.1
  refine ⟨fun h => hne (text_inj i j k l hk hl (by omega) (by omega) (by omega) (by omega) mi mj hi.2 hj.2 h), fun h => hne ?_⟩
  have d1 := dec_of_enc i k (by omega) (by omega) hk mi hi.2
  have d2 := dec_of_enc j l (by omega) (by omega) hl mj hj.2
  rw [hk, hl] at h
  simp only [Int.toNat_natCast] at h
  rw [← d1, ← d2, h]
theorem ins_ext {i j : InsN} (h1 : i.op = j.op) (h2 : i.s = j.s) (h3 : i.t = j.t) (h4 : i.d = j.d) (h5 : i.imm = j.imm) : i = j := by
  obtain ⟨i1, i2, i3, i4, i5⟩ := i
  obtain ⟨j1, j2, j3, j4, j5⟩ := j
  simp only at h1 h2 h3 h4 h5
  rw [h1, h2, h3, h4, h5]
/-- What the walk of AsmApart knows of a world. -/
structure AptW (w wr : World) (i j : InsN) (ad : Nat → Addr) : Prop where
  one : Five wr w.heap.size 25 (.int .i64 i.op) (.int .i64 i.s) (.int .i64 i.t) (.int .i64 i.d) (.int .u32 i.imm)
  two : Five wr (w.heap.size + 1) 25 (.int .i64 j.op) (.int .i64 j.s) (.int .i64 j.t) (.int .i64 j.d) (.int .u32 j.imm)
  below : Below w.heap.size w wr
  sents : Two wr ad
theorem AptW.trans {w wr w' : World} {i j : InsN} {ad : Nat → Addr} (h : AptW w wr i j ad) (hb : Below wr.heap.size wr w') : AptW w w' i j ad :=
  ⟨h.one.below hb h.one.lt, h.two.below hb h.two.lt, h.below.trans (hb.mono h.below.size), h.sents.below hb⟩
theorem AptW.start (w : World) (i j : InsN) (ad : Nat → Addr) (hS : Two w ad) : AptW w ((w.alloc (.cells #[.int .i64 i.op, .int .i64 i.s, .int .i64 i.t, .int .i64 i.d, .int .u32 i.imm] 25)).alloc (.cells #[.int .i64 j.op, .int .i64 j.s, .int .i64 j.t, .int .i64 j.d, .int .u32 j.imm] 25)) i j ad := by
  have h1 : Below w.heap.size w (w.alloc (.cells #[.int .i64 i.op, .int .i64 i.s, .int .i64 i.t, .int .i64 i.d, .int .u32 i.imm] 25)) := (Below.refl _ _).alloc (Nat.le_refl _) _
  have h2 := (Below.refl (w.alloc (.cells #[.int .i64 i.op, .int .i64 i.s, .int .i64 i.t, .int .i64 i.d, .int .u32 i.imm] 25)).heap.size (w.alloc (.cells #[.int .i64 i.op, .int .i64 i.s, .int .i64 i.t, .int .i64 i.d, .int .u32 i.imm] 25))).alloc (Nat.le_refl _) (.cells #[.int .i64 j.op, .int .i64 j.s, .int .i64 j.t, .int .i64 j.d, .int .u32 j.imm] 25)
  have hF := (Five.new w (.int .i64 i.op) (.int .i64 i.s) (.int .i64 i.t) (.int .i64 i.d) (.int .u32 i.imm) 25)
  have hG := Five.new (w.alloc (.cells #[.int .i64 i.op, .int .i64 i.s, .int .i64 i.t, .int .i64 i.d, .int .u32 i.imm] 25)) (.int .i64 j.op) (.int .i64 j.s) (.int .i64 j.t) (.int .i64 j.d) (.int .u32 j.imm) 25
  have hz : (w.alloc (.cells #[.int .i64 i.op, .int .i64 i.s, .int .i64 i.t, .int .i64 i.d, .int .u32 i.imm] 25)).heap.size = w.heap.size + 1 := by simp
  rw [hz] at hG
  exact ⟨hF.below h2 (by simp), hG, h1.trans (h2.mono (by simp)), (hS.below h1).below h2⟩
set_option maxHeartbeats 2000000 in
theorem apart_any (i j : InsN) (hi : i.Fits) (hj : j.Fits) (ad : Nat → Addr) (w : World) (hS : Two w ad) (hP : Pow w) :
    Calls Tryd.prog 7 #[insV i, insV j] w fun e w' => e = .returned (.bool true) ∧ Below w.heap.size w w' := by
  have HP := Lib.hid hP
  have H0 := Lib.hid (AptW.start w i j ad hS)
  clear hP hS
  by_cases gi : goodI i
  · have HTi := Lib.hid (fun w hS hP => text_yes i hi gi ad w hS hP)
    by_cases gj : goodI j
    · have HTj := Lib.hid (fun w hS hP => text_yes j hj gj ad w hS hP)
      have HWi := Lib.hid (fun w hS => word_yes i hi gi ad w hS)
      have HWj := Lib.hid (fun w hS => word_yes j hj gj ad w hS)
      have HNE : Hid (i ≠ j → ((bsl (textB i)).toList == (bsl (textB j)).toList) = false ∧ (encL i (fieldsB i.op.toNat) == encL j (fieldsB j.op.toNat)) = false) := fun h => by
        obtain ⟨a, b⟩ := good_inj i j gi gj hi.m0 hj.m0 h
        exact ⟨beq_eq_false_iff_ne.2 (by rw [bsl_list, bsl_list]; exact a), beq_eq_false_iff_ne.2 b⟩
      have HEQ : Hid (i = j → bsl (textB i) = bsl (textB j) ∧ encL i (fieldsB i.op.toNat) = encL j (fieldsB j.op.toNat)) := fun h => by rw [h]; exact ⟨rfl, rfl⟩
      clear hi hj gi gj
      generalize bsl (textB i) = sa at *
      generalize bsl (textB j) = sb at *
      generalize encL i (fieldsB i.op.toNat) = va at *
      generalize encL j (fieldsB j.op.toNat) = vb at *
      go_enter Tryd.func7, Tryd.ntmps7
      go_wp2_with fail
      generalize ((w.alloc (.cells #[.int .i64 i.op, .int .i64 i.s, .int .i64 i.t, .int .i64 i.d, .int .u32 i.imm] 25)).alloc (.cells #[.int .i64 j.op, .int .i64 j.s, .int .i64 j.t, .int .i64 j.d, .int .u32 j.imm] 25)) = wa at *
      refine (texted_ok ad _ H0.out.sents (HP.out.below H0.out.below)).mono ?_
      rintro e w1 ⟨rfl, hb1⟩
      have H1 := H0.out.trans hb1
      clear H0 hb1
      obtain ⟨c0, c1, c2, c3, c4⟩ := H1.one.cells
      go_wp2_with fail
      refine (HTi.out _ H1.sents (HP.out.below H1.below)).mono ?_
      rintro e w2 ⟨rfl, hb2⟩
      have H2 := H1.trans hb2
      clear H1 hb2 c0 c1 c2 c3 c4
      obtain ⟨c0, c1, c2, c3, c4⟩ := H2.two.cells
      go_wp2_with fail
      refine (HTj.out _ H2.sents (HP.out.below H2.below)).mono ?_
      rintro e w3 ⟨rfl, hb3⟩
      have H3 := H2.trans hb3
      clear H2 hb3 c0 c1 c2 c3 c4
      obtain ⟨c0, c1, c2, c3, c4⟩ := H3.one.cells
      go_wp2_with fail
      refine (HWi.out _ H3.sents).mono ?_
      rintro e w4 ⟨rfl, hb4⟩
      have H4 := H3.trans hb4
      clear H3 hb4 c0 c1 c2 c3 c4
      obtain ⟨c0, c1, c2, c3, c4⟩ := H4.two.cells
      go_wp2_with fail
      refine (HWj.out _ H4.sents).mono ?_
      rintro e w5 ⟨rfl, hb5⟩
      have H5 := H4.trans hb5
      clear H4 hb5 c0 c1 c2 c3 c4
      obtain ⟨c0, c1, c2, c3, c4⟩ := H5.one.cells
      obtain ⟨d0, d1, d2, d3, d4⟩ := H5.two.cells
      have HB := Lib.hid H5.below
      clear H5
      by_cases heq : i = j
      · obtain ⟨q1, q2⟩ := HEQ.out heq
        subst heq q1 q2
        go_wp2
        go_ret
        exact ⟨rfl, HB.out⟩
      · obtain ⟨hs1, hw'⟩ := HNE.out heq
        have HQ := Lib.hid heq
        clear heq
        go_wp2
        all_goals
          first
          | (go_ret; exact ⟨rfl, HB.out⟩)
          | (exfalso; refine HQ.out ?_; apply ins_ext <;> assumption)
    · obtain ⟨v, hv⟩ := text_no j hj gj ad
      have HTj := Lib.hid hv
      clear hv hi hj gi gj
      go_enter Tryd.func7, Tryd.ntmps7
      go_wp2_with fail
      generalize ((w.alloc (.cells #[.int .i64 i.op, .int .i64 i.s, .int .i64 i.t, .int .i64 i.d, .int .u32 i.imm] 25)).alloc (.cells #[.int .i64 j.op, .int .i64 j.s, .int .i64 j.t, .int .i64 j.d, .int .u32 j.imm] 25)) = wa at *
      refine (texted_ok ad _ H0.out.sents (HP.out.below H0.out.below)).mono ?_
      rintro e w1 ⟨rfl, hb1⟩
      have H1 := H0.out.trans hb1
      clear H0 hb1
      obtain ⟨c0, c1, c2, c3, c4⟩ := H1.one.cells
      go_wp2_with fail
      refine (HTi.out _ H1.sents (HP.out.below H1.below)).mono ?_
      rintro e w2 ⟨rfl, hb2⟩
      have H2 := H1.trans hb2
      clear H1 hb2 c0 c1 c2 c3 c4
      obtain ⟨c0, c1, c2, c3, c4⟩ := H2.two.cells
      go_wp2_with fail
      refine (HTj.out _ H2.sents).mono ?_
      rintro e w3 ⟨rfl, hb3⟩
      have HB := Lib.hid (H2.trans hb3).below
      clear H2 hb3 c0 c1 c2 c3 c4
      go_wp2
      go_ret
      exact ⟨rfl, HB.out⟩
  · obtain ⟨v, hv⟩ := text_no i hi gi ad
    obtain ⟨sj, ej, hT2⟩ : ∃ (sj : ByteArray) (ej : Value), ∀ w, Two w ad → Pow w → Calls Tryd.prog 26 #[insV j] w fun e w' => e = .returned (.tuple #[.string sj, ej]) ∧ Below w.heap.size w w' := by
      by_cases g : goodI j
      · exact ⟨_, _, fun w hS hP => text_yes j hj g ad w hS hP⟩
      · obtain ⟨v, hv⟩ := text_no j hj g ad
        exact ⟨_, _, fun w hS _ => hv w hS⟩
    have HTi := Lib.hid hv
    have HTj := Lib.hid hT2
    clear hv hT2 hi hj gi
    go_enter Tryd.func7, Tryd.ntmps7
    go_wp2_with fail
    generalize ((w.alloc (.cells #[.int .i64 i.op, .int .i64 i.s, .int .i64 i.t, .int .i64 i.d, .int .u32 i.imm] 25)).alloc (.cells #[.int .i64 j.op, .int .i64 j.s, .int .i64 j.t, .int .i64 j.d, .int .u32 j.imm] 25)) = wa at *
    refine (texted_ok ad _ H0.out.sents (HP.out.below H0.out.below)).mono ?_
    rintro e w1 ⟨rfl, hb1⟩
    have H1 := H0.out.trans hb1
    clear H0 hb1
    obtain ⟨c0, c1, c2, c3, c4⟩ := H1.one.cells
    go_wp2_with fail
    refine (HTi.out _ H1.sents).mono ?_
    rintro e w2 ⟨rfl, hb2⟩
    have H2 := H1.trans hb2
    clear H1 hb2 c0 c1 c2 c3 c4
    obtain ⟨c0, c1, c2, c3, c4⟩ := H2.two.cells
    go_wp2_with fail
    refine (HTj.out _ H2.sents (HP.out.below H2.below)).mono ?_
    rintro e w3 ⟨rfl, hb3⟩
    have HB := Lib.hid (H2.trans hb3).below
    clear H2 hb3 c0 c1 c2 c3 c4
    go_wp2
    go_ret
    exact ⟨rfl, HB.out⟩
end Go.Proofs.YtnppegldebocmaaDoor
