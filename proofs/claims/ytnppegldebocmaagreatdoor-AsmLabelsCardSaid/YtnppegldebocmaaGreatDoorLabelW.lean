/- The walk of asm.labelled. Conditions: as each theorem states. -/
import Derived.Test.YtnppegldebocmaaGreatDoorLabelP
import Derived.Deep.RegionHeld3
import Derived.Deep.QuietTactic
import Derived.BigQuiet
namespace Go.Proofs.YtnppegldebocmaaGreatDoor
open Go.RowKit
set_option linter.unusedVariables false
/-- A slice of texts in a row of its own, from block B on. -/
def StrOwn (B : Nat) (w : World) (v : Value) (L : List (List UInt8)) : Prop :=
  (v = .slice none 0 0 ∧ L = []) ∨ ∃ g, B ≤ g ∧ v = .slice (some ⟨g, 0, none⟩) L.length L.length ∧ g < w.heap.size ∧ (∀ j (h : j < L.length), w.cell? ⟨g, j, none⟩ = some (.string (bsl L[j]))) ∧ ∀ j, w.frozen? ⟨g, j, none⟩ = false
theorem split_own (s : List UInt8) (hl : s.length ≤ 100) (ad : Nat → Addr) (mz : Int) (w : World) (h : PW w ad mz) :
    Calls Tryz.prog 71 #[.string (bsl s), .string ⟨#[44, 32]⟩] w fun e w' => ∃ v, e = .returned v ∧ StrOwn w.heap.size w' v (split2 s) ∧ Below w.heap.size w w' := by
  have hsz := bsl_size s
  refine (Tryz.strings_Split (bsl s) ⟨#[44, 32]⟩ mz w (by omega) h.mx (by decide)).mono ?_
  rintro e w' ⟨rfl, rfl⟩
  obtain ⟨e1, e2⟩ := split_2 s
  have hcnt : Lib.countB (bsl s) ⟨#[44, 32]⟩ + 1 = (split2 s).length := by
    rw [← e2]
    show Lib.count (bsl s).data.toList _ + 1 = _
    rw [bsl_data]
  have hmap : (Lib.splitB ⟨#[44, 32]⟩ 0 (Lib.countB (bsl s) ⟨#[44, 32]⟩) (bsl s)).map (·.data.toList) = split2 s := by
    rw [Lib.splitB_data, bsl_data, ← e1]
    show Lib.splitK [44, 32] 0 (Lib.count (bsl s).data.toList [44, 32]) s = _
    rw [bsl_data]
    rfl
  have hlen : (Lib.splitB ⟨#[44, 32]⟩ 0 (Lib.countB (bsl s) ⟨#[44, 32]⟩) (bsl s)).length = (split2 s).length := by rw [← hmap, List.length_map]
  refine ⟨_, rfl, Or.inr ⟨w.heap.size, Nat.le_refl _, by rw [hcnt], by simp, fun j hj => ?_, fun j => World.frozen?_alloc_new _ _ _ _⟩, (Below.refl _ _).alloc (Nat.le_refl _) _⟩
  have hj2 : j < (Lib.splitB ⟨#[44, 32]⟩ 0 (Lib.countB (bsl s) ⟨#[44, 32]⟩) (bsl s)).length := by rw [hlen]; exact hj
  unfold World.cell?
  rw [heap_alloc_new]
  simp only [Option.isSome_none, Bool.false_eq_true, if_false]
  rw [List.getElem?_toArray, List.getElem?_map, List.getElem?_eq_getElem hj2]
  simp only [Option.map_some, Option.some.injEq, Value.string.injEq]
  refine bsl_mk _ _ ?_
  have : ((Lib.splitB ⟨#[44, 32]⟩ 0 (Lib.countB (bsl s) ⟨#[44, 32]⟩) (bsl s)).map (·.data.toList))[j]'(by rw [List.length_map]; exact hj2) = (split2 s)[j] := by
    congr 1
  rw [← this, List.getElem_map]
set_option maxHeartbeats 1000000 in
theorem words_own (s : List UInt8) (hl : s.length ≤ 100) (ad : Nat → Addr) (mz : Int) (w : World) (h : PW w ad mz) :
    Calls Tryz.prog 34 #[.string (bsl s)] w fun e w' => ∃ v, e = .returned (.tuple #[.string (bsl (cutC 32 s).1), v]) ∧ StrOwn w.heap.size w' v (piecesB s) ∧ Below w.heap.size w w' := by
  have HP := Lib.hid h
  have HC := Lib.hid (cut_any s hl 32 ad mz w h)
  obtain ⟨l1, l2⟩ := cutC_len 32 s
  have HS := Lib.hid (fun W (hW : PW W ad mz) => split_own (cutC 32 s).2.1 (by omega) ad mz W hW)
  have HB : Hid (piecesB s = if (cutC 32 s).2.2 = true then split2 (cutC 32 s).2.1 else []) := rfl
  clear h l1 l2
  generalize piecesB s = L at *
  generalize (cutC 32 s).1 = n at *
  generalize (cutC 32 s).2.2 = b at *
  generalize (cutC 32 s).2.1 = r at *
  go_enter Tryz.func34, Tryz.ntmps34
  go_wp2_with fail
  refine HC.out.mono ?_
  rintro e w1 ⟨rfl, hb1⟩
  have HP1 := Lib.hid (HP.out.below hb1)
  have HB1 := Lib.hid hb1
  clear hb1 HC
  cases b
  · have HL : Hid (L = []) := by show _ = _; rw [HB.out]; rfl
    go_wp2
    go_ret2
    exact ⟨_, rfl, Or.inl ⟨rfl, HL.out⟩, HB1.out⟩
  · have HL : Hid (L = split2 r) := by show _ = _; rw [HB.out]; rfl
    go_wp2_with fail
    refine (HS.out w1 HP1.out).mono ?_
    rintro e w2 ⟨v, rfl, hv, hb2⟩
    have HB2 := Lib.hid (HB1.out.trans (hb2.mono HB1.out.size))
    have HV := Lib.hid hv
    clear hv hb2
    go_wp2
    go_ret2
    refine ⟨_, rfl, ?_, HB2.out⟩
    rw [HL.out]
    rcases HV.out with h | ⟨g, h0, h1⟩
    · exact Or.inl h
    · exact Or.inr ⟨g, Nat.le_trans HB1.out.size h0, h1⟩
def notLab : Value := .tuple #[.string ⟨#[]⟩, .string ⟨#[]⟩, .bool false]
theorem ba_ne {a b : ByteArray} (h : a ≠ b) : (a.toList == b.toList) = false := by
  refine beq_eq_false_iff_ne.2 fun e => h ?_
  rw [bsl_mk a a.toList (Lib.toList_data _).symm, e]
  exact (bsl_mk b b.toList (Lib.toList_data _).symm).symm
set_option maxHeartbeats 2000000 in
set_option maxRecDepth 100000 in
theorem labelled_any (s : List UInt8) (hl : s.length ≤ 100) (ad : Nat → Addr) (mz : Int) (w : World) (h : PW w ad mz) :
    Calls Tryz.prog 86 #[.string (bsl s)] w fun e w' => Below w.heap.size w w' ∧ ((labelledB s = none ∧ e = .returned notLab) ∨ ∃ l x, labelledB s = some (l, x) ∧ e = .returned (.tuple #[.string (bsl l), .string (bsl x), .bool true])) := by
  have HP := Lib.hid h
  have HW := Lib.hid (words_own s hl ad mz w h)
  have hmany := pieces_many s
  have HLN := Lib.hid (fun p hp => pieces_len2 s p hp)
  have H0 := Lib.hid (fun e : piecesB s = [] => labelledB_nil e)
  have H1 := Lib.hid (fun xs x (e : piecesB s = xs ++ [x]) => labelledB_snoc e)
  have HSH := Lib.hid (fun xs x (e : piecesB s = xs ++ [x]) hx => line_short s xs x e hx)
  clear h
  generalize piecesB s = L at *
  generalize labelledB s = R at *
  generalize (cutC 32 s).1 = nm at *
  go_enter Tryz.func86, Tryz.ntmps86
  go_wp2_with fail
  refine HW.out.mono ?_
  rintro e w1 ⟨v, rfl, hv, hb1⟩
  have HP1 := Lib.hid (HP.out.below hb1)
  have HB1 := Lib.hid hb1
  have HV := Lib.hid hv
  clear hb1 HW HP hv
  go_wp2_with fail
  refine (named_any nm _).mono ?_
  rintro e w2 ⟨rfl, hb2⟩
  have HP2 := Lib.hid (HP1.out.below hb2)
  have HB2 := Lib.hid (HB1.out.trans (hb2.mono HB1.out.size))
  have HB12 := Lib.hid hb2
  clear hb2 HP1 HB1
  have hk := nameN_lt nm
  generalize nameN nm = k at *
  rcases snoc_of L with h0 | ⟨xs, x, hL⟩
  · have HR : Hid (R = none) := H0.out h0
    obtain ⟨v', c', hv'⟩ : ∃ v' c', v = .slice v' 0 c' := by
      rcases HV.out with ⟨rfl, _⟩ | ⟨g, _, rfl, _⟩
      · exact ⟨_, _, rfl⟩
      · rw [h0]; exact ⟨_, _, rfl⟩
    subst hv'
    clear h0
    go_wp2
    exact bodyPost_ret (v := notLab) (by simp [results, Tryz.results86, notLab, go_sem]) rfl ⟨HB2.out, Or.inl ⟨HR.out, rfl⟩⟩
  · obtain ⟨g, hg0, rfl, hg1, hgc, hgf⟩ : ∃ g, w.heap.size ≤ g ∧ v = .slice (some ⟨g, 0, none⟩) L.length L.length ∧ g < w1.heap.size ∧ (∀ j (h : j < L.length), w1.cell? ⟨g, j, none⟩ = some (.string (bsl L[j]))) ∧ ∀ j, w1.frozen? ⟨g, j, none⟩ = false := by
      rcases HV.out with ⟨_, e⟩ | h
      · rw [e] at hL; simp at hL
      · exact h
    have HRS := Lib.hid (H1.out xs x hL)
    have hlen : L.length = xs.length + 1 := by rw [hL]; simp
    have hxl : x.length ≤ 100 := by
      have := HLN.out x (by rw [hL]; simp)
      go_light; omega
    have hgx : w2.cell? ⟨g, xs.length, none⟩ = some (.string (bsl x)) := by
      rw [HB12.out.cell (by exact hg1), hgc xs.length (by omega)]
      congr 3
      subst hL
      simp
    have HGC := Lib.hid hgc
    have HGF := Lib.hid hgf
    have HG1 := Lib.hid hg1
    have HG0 := Lib.hid hg0
    have hz : ((xs.length : Int) + 1 == 0) = false := beq_eq_false_iff_ne.2 (by go_light; omega)
    rw [hlen]
    clear hgc hgf hg1 hg0 HV
    by_cases hbr : isBr k = true
    · have hkk : kindOfB (k : Int) = [98, 114, 97, 110, 99, 104] ∧ k ≠ 7 ∧ k ≠ 8 := by simpa [isBr] using hbr
      obtain ⟨hk1, hk7, hk8⟩ := hkk
      have h7 : ((k : Int) == 7) = false := beq_eq_false_iff_ne.2 (by omega)
      have h8 : ((k : Int) == 8) = false := beq_eq_false_iff_ne.2 (by omega)
      have HK := Lib.hid (kindOf_any (k : Int) w2)
      have HKB : Hid (bsl (kindOfB (k : Int)) = ⟨#[98, 114, 97, 110, 99, 104]⟩) := by show _ = _; rw [hk1]; rfl
      have HBR := Lib.hid hbr
      have HLA := Lib.hid (fun W => label_any x hxl W)
      clear hbr hk1 hk7 hk8
      go_wp2_with fail
      refine HK.out.mono ?_
      rintro e w3 ⟨rfl, hb3⟩
      rw [HKB.out]
      have HP3 := Lib.hid (HP2.out.below hb3)
      have HB3 := Lib.hid (HB2.out.trans (hb3.mono HB2.out.size))
      have HB13 := Lib.hid (HB12.out.trans (hb3.mono HB12.out.size))
      have hgx3 : w3.cell? ⟨g, xs.length, none⟩ = some (.string (bsl x)) := by
        rw [hb3.cell (by exact Nat.lt_of_lt_of_le HG1.out HB12.out.size)]
        exact hgx
      clear hb3 HK HB2 HP2 hgx HB12
      go_wp2_with fail
      refine (HLA.out _).mono ?_
      rintro e w4 ⟨rfl, hb4⟩
      have HP4 := Lib.hid (HP3.out.below hb4)
      have HB4 := Lib.hid (HB3.out.trans (hb4.mono HB3.out.size))
      have HB14 := Lib.hid (HB13.out.trans (hb4.mono HB13.out.size))
      have hgx4 : w4.cell? ⟨g, xs.length, none⟩ = some (.string (bsl x)) := by
        rw [hb4.cell (by exact Nat.lt_of_lt_of_le HG1.out HB13.out.size)]
        exact hgx3
      clear hb4 HP3 HB3 HB13 hgx3
      cases hlab : labelB x with
      | false =>
        have HR : Hid (R = none) := by show _ = _; rw [HRS.out, hlab, Bool.and_false]; rfl
        clear hlab
        go_wp2
        exact bodyPost_ret (v := notLab) (by simp [results, Tryz.results86, notLab, go_sem]) rfl ⟨HB4.out, Or.inl ⟨HR.out, rfl⟩⟩
      | true =>
        have HR : Hid (R = some (nm ++ 32 :: Lib.join (xs ++ [[48]]) [44, 32], x)) := by show _ = _; rw [HRS.out, HBR.out, hlab]; rfl
        have hf4 : w4.frozen? ⟨g, xs.length, none⟩ = false := by
          rw [HB14.out.frozen (by exact HG1.out)]
          exact HGF.out _
        have hjl := HSH.out xs x hL (label_ne hlab)
        have hJ : Calls Tryz.prog 29 #[.slice (some ⟨g, 0, none⟩) (xs.length + 1) (xs.length + 1), .string ⟨#[44, 32]⟩] (w4.setCell ⟨g, xs.length, none⟩ (.string ⟨#[48]⟩)) fun e w' => e = .returned (.string (bsl (Lib.join (xs ++ [[48]]) [44, 32]))) ∧ Below (w4.setCell ⟨g, xs.length, none⟩ (.string ⟨#[48]⟩)).heap.size (w4.setCell ⟨g, xs.length, none⟩ (.string ⟨#[48]⟩)) w' := by
          have hm : ((xs ++ [[48]]).map bsl).map (fun (b : ByteArray) => b.data.toList) = xs ++ [[48]] := by
            rw [List.map_map]
            refine (List.map_congr_left (g := id) fun l _ => ?_).trans (List.map_id _)
            simp [bsl]
          have hlm : ((xs ++ [[48]]).map bsl).length = xs.length + 1 := by simp
          have h := Tryz.strings_Join g 0 (xs.length + 1) ((xs ++ [[48]]).map bsl) ⟨#[44, 32]⟩ (w4.setCell ⟨g, xs.length, none⟩ (.string ⟨#[48]⟩)) (by
            intro j y hy
            rw [Nat.zero_add]
            by_cases hj : j = xs.length
            · subst hj
              rw [List.getElem?_map, List.getElem?_append_right (Nat.le_refl _), Nat.sub_self] at hy
              simp only [List.getElem?_cons_zero, Option.map_some, Option.some.injEq] at hy
              subst hy
              exact World.cell?_setCell_same _ _ _ hgx4
            · have hjl : j < xs.length := by
                have := (List.getElem?_eq_some_iff.1 hy).1
                rw [hlm] at this
                omega
              rw [List.getElem?_map, List.getElem?_append_left hjl, List.getElem?_eq_getElem hjl] at hy
              simp only [Option.map_some, Option.some.injEq] at hy
              subst hy
              rw [World.cell?_setCell_other _ _ _ _ (by intro e; cases e; exact hj rfl), HB14.out.cell (by exact HG1.out), HGC.out j (by omega)]
              congr 3
              subst hL
              simp [List.getElem_append_left hjl]) (by simp; exact Nat.lt_of_lt_of_le HG1.out HB14.out.size) (by rw [hlm]; omega) (by rw [hlm]; exact Nat.le_refl _) (by
            rw [hm]
            show (Lib.join (xs ++ [[48]]) [44, 32]).length ≤ _
            simp at hjl
            omega)
          rw [hlm, hm] at h
          exact h
        have HJ := Lib.hid hJ
        have hjs : (Lib.join (xs ++ [[48]]) [44, 32]).length + nm.length ≤ 100 := by simp at hjl; omega
        have zn : (bsl nm).size ≤ 100 := by rw [bsl_size]; omega
        have zj : (bsl (Lib.join (xs ++ [[48]]) [44, 32])).size ≤ 100 := by rw [bsl_size]; omega
        have HL2 : Hid ((bsl nm) ++ (⟨#[32]⟩ : ByteArray) ++ bsl (Lib.join (xs ++ [[48]]) [44, 32]) = bsl (nm ++ 32 :: Lib.join (xs ++ [[48]]) [44, 32])) := by
          apply ByteArray.ext
          simp [bsl]
        have HBS := Lib.hid ((HB4.out).setCell (p := ⟨g, xs.length, none⟩) (by exact HG0.out) (.string ⟨#[48]⟩))
        have HHS : Hid ((w4.setCell ⟨g, xs.length, none⟩ (.string ⟨#[48]⟩)).heap.size = w4.heap.size) := by simp [Hid]
        clear hlab hjl hJ
        generalize bsl (Lib.join (xs ++ [[48]]) [44, 32]) = bj at *
        clear hjs
        go_wp2_with fail
        refine HJ.out.mono ?_
        rintro e w5 ⟨rfl, hb5⟩
        have HB5 := Lib.hid (HBS.out.trans (hb5.mono HBS.out.size))
        clear hb5
        go_wp2
        exact bodyPost_ret (v := .tuple #[.string (bsl nm ++ ⟨#[32]⟩ ++ bj), .string (bsl x), .bool true]) (by simp [results, Tryz.results86, go_sem]) rfl ⟨HB5.out, Or.inr ⟨_, _, HR.out, by rw [HL2.out]⟩⟩
    · have HR : Hid (R = none) := by
        show _ = _
        rw [HRS.out]
        have : isBr k = false := by simpa using hbr
        rw [this]
        rfl
      have HK := Lib.hid (kindOf_any (k : Int) w2)
      obtain ⟨kd, hkd⟩ : ∃ kd, kindOfB (k : Int) = kd := ⟨_, rfl⟩
      rw [hkd] at HK
      by_cases hkb : kd = [98, 114, 97, 110, 99, 104]
      · have h78 : ((k : Int) == 7) = true ∨ (((k : Int) == 7) = false ∧ ((k : Int) == 8) = true) := by
          by_cases e7 : k = 7
          · exact Or.inl (by rw [e7]; rfl)
          · refine Or.inr ⟨beq_eq_false_iff_ne.2 (by omega), ?_⟩
            by_cases e8 : k = 8
            · rw [e8]; rfl
            · exact absurd (by simp [isBr, hkd, hkb, e7, e8]) hbr
        have HKB : Hid (bsl kd = ⟨#[98, 114, 97, 110, 99, 104]⟩) := by show _ = _; rw [hkb]; rfl
        clear hbr hkb hkd
        go_wp2_with fail
        refine HK.out.mono ?_
        rintro e w3 ⟨rfl, hb3⟩
        rw [HKB.out]
        have HB3 := Lib.hid (HB2.out.trans (hb3.mono HB2.out.size))
        clear hb3
        rcases h78 with h7 | ⟨h7, h8⟩
        · go_wp2
          exact bodyPost_ret (v := notLab) (by simp [results, Tryz.results86, notLab, go_sem]) rfl ⟨HB3.out, Or.inl ⟨HR.out, rfl⟩⟩
        · go_wp2
          exact bodyPost_ret (v := notLab) (by simp [results, Tryz.results86, notLab, go_sem]) rfl ⟨HB3.out, Or.inl ⟨HR.out, rfl⟩⟩
      · have hne : ¬ (bsl kd).toList = [98, 114, 97, 110, 99, 104] := by rw [bsl_l2]; exact hkb
        clear hbr hkb hkd
        generalize bsl kd = bk at *
        go_wp2_with fail
        refine HK.out.mono ?_
        rintro e w3 ⟨rfl, hb3⟩
        have HB3 := Lib.hid (HB2.out.trans (hb3.mono HB2.out.size))
        clear hb3
        go_wp2
        exact bodyPost_ret (v := notLab) (by simp [results, Tryz.results86, notLab, go_sem]) rfl ⟨HB3.out, Or.inl ⟨HR.out, rfl⟩⟩
end Go.Proofs.YtnppegldebocmaaGreatDoor
