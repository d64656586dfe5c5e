/- The walk of changelinglaw1.texted; asm.Text both ways; the word of a good instruction. Conditions: as the theorems state. -/
import Derived.Test.YtnppegldebocmaaGreatDoorText
import Derived.Test.YtnppegldebocmaaGreatDoorBackP
namespace Go.Proofs.YtnppegldebocmaaGreatDoor
open Go.RowKit
set_option linter.unusedVariables false
theorem texted_text : bsl (textB ⟨48, 4, 2, 0, 65532⟩) = ⟨#[108, 119, 32, 36, 50, 44, 32, 45, 52, 40, 36, 52, 41]⟩ := by
  have d : ∀ u : Nat, u < 10 → Lib.itoa (u : Int) = [UInt8.ofNat (48 + u)] := fun u h => by
    unfold Lib.itoa
    rw [if_neg (by omega), Int.toNat_natCast, Lib.decDigits_one h]
  have d2 := d 2 (by decide)
  have d4 := d 4 (by decide)
  have m4 : Lib.itoa (-4) = [45, 52] := by
    unfold Lib.itoa
    rw [if_pos (by decide), show (-4 : Int).natAbs = 4 from rfl, Lib.decDigits_one (by decide)]
    rfl
  have e : textB ⟨48, 4, 2, 0, 65532⟩ = [108, 119] ++ (32 :: Lib.join [36 :: Lib.itoa 2, Lib.itoa (-4) ++ ([40, 36] ++ (Lib.itoa 4 ++ [41]))] [44, 32]) := rfl
  rw [e, m4, show Lib.itoa 2 = _ from d2, show Lib.itoa 4 = _ from d4]
  rfl
theorem texted_ok (ad : Nat → Addr) (w : World) (hS : Two w ad) (hP : Pow w) :
    Calls Tryz.prog 7 #[] w fun e w' => e = .returned (.bool true) ∧ Below w.heap.size w w' := by
  have hT := text_good ⟨48, 4, 2, 0, 65532⟩ ⟨by decide, by decide, by decide, by decide, by decide, by decide, by decide, by decide, by decide, by decide⟩ 48 (by decide) (by decide) rfl (by decide +kernel) ad w hS hP
  rw [texted_text] at hT
  have HT := Lib.hid hT
  clear hT hS hP
  go_enter Tryz.func7, Tryz.ntmps7
  go_wp2_with fail
  refine HT.out.mono ?_
  rintro e w1 ⟨rfl, hb1⟩
  go_wp2
  go_ret
  exact ⟨rfl, hb1⟩
/-- Has an instruction a word? -/
def goodI (i : InsN) : Prop := (1 ≤ i.op ∧ i.op < 54) ∧ encBad i = false
theorem text_no (i : InsN) (hi : i.Fits) (h : ¬ goodI i) (ad : Nat → Addr) : ∃ v : Value, ∀ w, Two w ad →
    Calls Tryz.prog 8 #[insV i] w fun e w' => e = .returned (.tuple #[.string ⟨#[]⟩, .iface 214 v]) ∧ Below w.heap.size w w' := by
  obtain ⟨q, _, hq⟩ := text_bad i hi (by
    unfold goodI at h
    by_cases hl : i.op ≤ 0 ∨ 54 ≤ i.op
    · exact Or.inl hl
    · refine Or.inr ?_
      cases hb : encBad i
      · exact absurd ⟨by omega, hb⟩ h
      · rfl) ad
  exact ⟨_, hq⟩
theorem text_yes (i : InsN) (hi : i.Fits) (h : goodI i) (ad : Nat → Addr) (w : World) (hS : Two w ad) (hP : Pow w) :
    Calls Tryz.prog 8 #[insV i] w fun e w' => e = .returned (.tuple #[.string (bsl (textB i)), .nilIface]) ∧ Below w.heap.size w w' := by
  obtain ⟨k, hk⟩ := Int.eq_ofNat_of_zero_le (a := i.op) (by have := h.1; omega)
  exact text_good i hi k (by have := h.1; omega) (by have := h.1; omega) hk h.2 ad w hS hP
theorem word_yes (i : InsN) (hi : i.Fits) (h : goodI i) (ad : Nat → Addr) (w : World) (hS : Two w ad) :
    Calls Tryz.prog 25 #[insV i] w fun e w' => e = .returned (.tuple #[.int .u32 (encL i (fieldsB i.op.toNat)), .nilIface]) ∧ Below w.heap.size w w' := by
  obtain ⟨k, hk⟩ := Int.eq_ofNat_of_zero_le (a := i.op) (by have := h.1; omega)
  have hn : (nameS i.op).toList.isEmpty = false := by rw [hk]; exact name_full k (by have := h.1; omega) (by have := h.1; omega)
  exact (encode_some i hi hn _ _ w hS.c3 hS.c1).mono fun e w' g => ⟨by rw [g.1, encRes_good h.2], g.2⟩
theorem good_inj (i j : InsN) (hi : goodI i) (hj : goodI j) (mi : 0 ≤ i.imm) (mj : 0 ≤ j.imm) (hne : i ≠ j) : textB i ≠ textB j ∧ encL i (fieldsB i.op.toNat) ≠ encL j (fieldsB j.op.toNat) := by
  obtain ⟨k, hk⟩ := Int.eq_ofNat_of_zero_le (a := i.op) (by have := hi.1; omega)
  obtain ⟨l, hl⟩ := Int.eq_ofNat_of_zero_le (a := j.op) (by have := hj.1; omega)
  have i1 := hi.1
  have j1 := hj.1
  refine ⟨fun h => hne (text_inj i j k l hk hl (by omega) (by omega) (by omega) (by omega) mi mj hi.2 hj.2 h), fun h => hne ?_⟩
  have d1 := dec_of_enc i k (by omega) (by omega) hk mi hi.2
  have d2 := dec_of_enc j l (by omega) (by omega) hl mj hj.2
  rw [hk, hl] at h
  simp only [Int.toNat_natCast] at h
  rw [← d1, ← d2, h]
theorem ins_ext {i j : InsN} (h1 : i.op = j.op) (h2 : i.s = j.s) (h3 : i.t = j.t) (h4 : i.d = j.d) (h5 : i.imm = j.imm) : i = j := by
  obtain ⟨i1, i2, i3, i4, i5⟩ := i
  obtain ⟨j1, j2, j3, j4, j5⟩ := j
  simp only at h1 h2 h3 h4 h5
  rw [h1, h2, h3, h4, h5]
end Go.Proofs.YtnppegldebocmaaGreatDoor
