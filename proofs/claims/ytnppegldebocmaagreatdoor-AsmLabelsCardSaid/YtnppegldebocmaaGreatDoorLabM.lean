/- The plain law of the lines that AsmLabels makes. No program in sight. Conditions: as each theorem states. The plain law of the two branches that AsmLabels makes, settled. No program in sight. Conditions: as each theorem states. The walks of word.Wide and word.Add where AsmLabels calls them. Conditions: as each theorem states. -/
import Derived.Test.YtnppegldebocmaaGreatDoorAsmN
import Derived.Test.YtnppegldebocmaaGreatDoorWordR
namespace Go.Proofs.YtnppegldebocmaaGreatDoor
open Go.RowKit Go.Maps
set_option linter.unusedVariables false
def thereL : List UInt8 := [116, 104, 101, 114, 101, 58]
def thereN : List UInt8 := [116, 104, 101, 114, 101]
def adduL : List UInt8 := [97, 100, 100, 117, 32, 36, 49, 44, 32, 36, 50, 44, 32, 36, 51]
def bneL : List UInt8 := [98, 110, 101, 32, 36, 51, 44, 32, 36, 48, 44, 32, 116, 104, 101, 114, 101]
def bneL0 : List UInt8 := [98, 110, 101, 32, 36, 51, 44, 32, 36, 48, 44, 32, 48]
def jL : List UInt8 := [106, 32, 116, 104, 101, 114, 101]
def jL0 : List UInt8 := [106, 32, 48]
abbrev adduI : InsN := ⟨20, 2, 3, 1, 0⟩
abbrev bneI (m : Int) : InsN := ⟨32, 3, 0, 0, m⟩
abbrev jI (m : Int) : InsN := ⟨29, 0, 0, 0, m⟩
theorem itoa_small (d : Nat) (h : d < 10) : Lib.itoa (d : Int) = [UInt8.ofNat (48 + d)] := by rw [Lib.itoa_nonneg, Lib.decDigits_one h]
theorem text_addu : textB adduI = adduL := by
  have h1 : Lib.itoa 1 = [49] := itoa_small 1 (by decide)
  have h2 : Lib.itoa 2 = [50] := itoa_small 2 (by decide)
  have h3 : Lib.itoa 3 = [51] := itoa_small 3 (by decide)
  have ho : orderB 20 = [68, 83, 84] := by decide
  show nameB 20 ++ tailB adduI 20 = _
  unfold tailB
  rw [ho]
  show nameB 20 ++ (32 :: Lib.join [36 :: Lib.itoa 1, 36 :: Lib.itoa 2, 36 :: Lib.itoa 3] [44, 32]) = _
  rw [h1, h2, h3]
  decide
theorem text_bne : textB (bneI 0) = bneL0 := by
  have h1 : Lib.itoa 3 = [51] := itoa_small 3 (by decide)
  have h2 : Lib.itoa 0 = [48] := itoa_small 0 (by decide)
  have ho : orderB 32 = [83, 84, 110] := by decide
  have hi : immS 0 = 0 := by decide
  show nameB 32 ++ tailB (bneI 0) 32 = _
  unfold tailB
  rw [ho]
  show nameB 32 ++ (32 :: Lib.join [36 :: Lib.itoa 3, 36 :: Lib.itoa 0, Lib.itoa (immS 0)] [44, 32]) = _
  rw [hi, h1, h2]
  decide
theorem text_j : textB (jI 0) = jL0 := by
  have h2 : Lib.itoa 0 = [48] := itoa_small 0 (by decide)
  have ho : orderB 29 = [106] := by decide
  show nameB 29 ++ tailB (jI 0) 29 = _
  unfold tailB
  rw [ho]
  show nameB 29 ++ (32 :: Lib.join [Lib.itoa 0] [44, 32]) = _
  rw [h2]
  decide
theorem good_addu : goodI adduI ∧ adduI.Fits := ⟨⟨⟨by decide, by decide⟩, by decide⟩, by constructor <;> decide⟩
theorem bad_bne (m : Int) (h0 : 0 ≤ m) (h1 : m < 65536) : encBad (bneI m) = false := by
  have hf : fieldsB 32 = [83, 84, 105] := by decide
  unfold encBad
  simp only [show ((32 : Int).toNat) = 32 from rfl, hf, List.any_cons, List.any_nil]
  simp [bad2, okF, valF, mostF, hf]
  try omega
theorem good_bne (m : Int) (h0 : 0 ≤ m) (h1 : m < 65536) : goodI (bneI m) ∧ (bneI m).Fits :=
  ⟨⟨⟨(by decide : (1 : Int) ≤ 32), (by decide : (32 : Int) < 54)⟩, bad_bne m h0 h1⟩, by constructor <;> simp <;> omega⟩
theorem bad_j (m : Int) (h0 : 0 ≤ m) (h1 : m < 67108864) : encBad (jI m) = false := by
  have hf : fieldsB 29 = [106] := by decide
  unfold encBad
  simp only [show ((29 : Int).toNat) = 29 from rfl, hf, List.any_cons, List.any_nil]
  simp [bad2, okF, valF, mostF, hf]
  try omega
theorem good_j (m : Int) (h0 : 0 ≤ m) (h1 : m < 67108864) : goodI (jI m) ∧ (jI m).Fits :=
  ⟨⟨⟨(by decide : (1 : Int) ≤ 29), (by decide : (29 : Int) < 54)⟩, bad_j m h0 h1⟩, by constructor <;> simp <;> omega⟩
theorem lab_bne : labelledB bneL = some (bneL0, thereN) := by decide +kernel
theorem lab_j : labelledB jL = some (jL0, thereN) := by decide +kernel
theorem parse_bne : parseB bneL0 = (bneI 0, 0) := by
  have h := good_bne 0 (by decide) (by decide)
  have := parse_text (bneI 0) h.2 h.1
  rwa [text_bne] at this
theorem parse_j : parseB jL0 = (jI 0, 0) := by
  have h := good_j 0 (by decide) (by decide)
  have := parse_text (jI 0) h.2 h.1
  rwa [text_j] at this
abbrev bneZ : Int := 341835776
abbrev jZ : Int := 134217728
abbrev adduZ : Int := 4392993
theorem enc_bne : encL (bneI 0) (fieldsB 32) = bneZ := by decide +kernel
theorem enc_j : encL (jI 0) (fieldsB 29) = jZ := by decide +kernel
theorem enc_addu : encL adduI (fieldsB 20) = adduZ := by decide +kernel
theorem dec_bne (m : Int) (h0 : 0 ≤ m) (h1 : m < 65536) : decZ (encL (bneI m) (fieldsB 32)) = bneI m := dec_of_enc (bneI m) 32 (by decide) (by decide) rfl h0 (bad_bne m h0 h1)
theorem dec_j (m : Int) (h0 : 0 ≤ m) (h1 : m < 67108864) : decZ (encL (jI m) (fieldsB 29)) = jI m := dec_of_enc (jI m) 29 (by decide) (by decide) rfl h0 (bad_j m h0 h1)
theorem dec_bneZ : decZ bneZ = bneI 0 := by rw [← enc_bne]; exact dec_bne 0 (by decide) (by decide)
theorem dec_jZ : decZ jZ = jI 0 := by rw [← enc_j]; exact dec_j 0 (by decide) (by decide)
theorem stepQ_bne (base i : Int) (st : StQ) : stepQ base i st bneL = some ((st.1.1 ++ [bneZ], st.1.2), st.2 ++ [(i, (st.1.1.length : Int), thereN)]) := by
  unfold stepQ
  rw [if_pos ⟨by decide, by decide⟩, lab_bne]
  simp only
  rw [parse_bne]
  simp only [if_true]
  rw [show ((bneI 0).op).toNat = 32 from rfl, enc_bne]
theorem stepQ_j (base i : Int) (st : StQ) : stepQ base i st jL = some ((st.1.1 ++ [jZ], st.1.2), st.2 ++ [(i, (st.1.1.length : Int), thereN)]) := by
  unfold stepQ
  rw [if_pos ⟨by decide, by decide⟩, lab_j]
  simp only
  rw [parse_j]
  simp only [if_true]
  rw [show ((jI 0).op).toNat = 29 from rfl, enc_j]
theorem stepQ_addu (base i : Int) (st : StQ) : stepQ base i st adduL = some ((st.1.1 ++ [adduZ], st.1.2), st.2) := by
  have hn : labelledB adduL = none := by decide +kernel
  refine stepQ_of base i st adduL _ ?_ (Or.inr (Or.inr hn))
  have hp : parseB adduL = (adduI, 0) := by
    have := parse_text adduI good_addu.2 good_addu.1
    rwa [text_addu] at this
  unfold stepB
  rw [if_neg (by decide), if_neg (by decide), hp, if_pos ⟨hn, rfl⟩]
  simp only
  rw [show (adduI.op).toNat = 20 from rfl, enc_addu]
theorem stepQ_there (base i : Int) (ws : List Int) (q : Waits) : stepQ base i ((ws, .map []), q) thereL = some ((ws, (DataW.map []).put (.string thereN) (.lit (.int .u32 (hereZ base ws.length)))), q) := by
  refine stepQ_of base i _ thereL _ ?_ (Or.inl (by decide))
  have h1 : Lib.hasSuffix thereL [58] = true := by decide
  have h2 : Lib.trimSuffix thereL [58] = thereN := by decide
  have h3 : labelB thereN = true := by decide
  have h4 : Maps.has (DataW.map [] : DataW Unit) (.string thereN) = false := rfl
  unfold stepB
  rw [if_pos h1, h2, if_pos ⟨h3, h4⟩]
/-- The lines of one place. -/
def lineAt (f t i : Nat) : List (List UInt8) := (if i = t then [thereL] else []) ++ (if i = f then [bneL, jL] else [adduL])
def linesI (f t : Nat) : Nat → List (List UInt8)
  | 0 => []
  | i + 1 => linesI f t i ++ lineAt f t i
def wordsI (f : Nat) : Nat → List Int
  | 0 => []
  | i + 1 => wordsI f i ++ (if i = f then [bneZ, jZ] else [adduZ])
theorem wordsI_len (f : Nat) : ∀ i, (wordsI f i).length = i + (if f < i then 1 else 0)
  | 0 => by simp [wordsI]
  | i + 1 => by
    have ih := wordsI_len f i
    simp only [wordsI, List.length_append, ih]
    by_cases h : i = f
    · subst h
      rw [if_pos rfl, if_neg (Nat.lt_irrefl _), if_pos (Nat.lt_succ_self _)]
      rfl
    · rw [if_neg h]
      by_cases h2 : f < i
      · rw [if_pos h2, if_pos (by omega)]; simp
      · rw [if_neg h2, if_neg (by omega)]; simp
theorem wordsI_at (f : Nat) : ∀ i, f < i → (wordsI f i)[f]? = some bneZ ∧ (wordsI f i)[f + 1]? = some jZ
  | 0, h => absurd h (by omega)
  | i + 1, h => by
    simp only [wordsI]
    by_cases e : i = f
    · subst e
      have hl : (wordsI i i).length = i := by rw [wordsI_len, if_neg (Nat.lt_irrefl _)]; rfl
      rw [if_pos rfl]
      constructor
      · rw [List.getElem?_append_right (by omega), hl]; simp
      · rw [List.getElem?_append_right (by omega), hl]; simp
    · obtain ⟨a, b⟩ := wordsI_at f i (by omega)
      have hl := wordsI_len f i
      rw [if_pos (by omega)] at hl
      rw [List.getElem?_append_left (by omega), List.getElem?_append_left (by omega)]
      exact ⟨a, b⟩
/-- Where the label is. -/
def placeN (f t : Nat) : Nat := t + (if f < t then 1 else 0)
def labD (base : Int) (f t : Nat) : DataW Unit := (DataW.map []).put (.string thereN) (.lit (.int .u32 (hereZ base (placeN f t))))
def waitsOf (c1 c2 : Int) (f : Nat) : Waits := [(c1, (f : Int), thereN), (c2, ((f + 1 : Nat) : Int), thereN)]
def WaitsI (f i : Nat) (q : Waits) : Prop := if f < i then ∃ c1 c2, q = waitsOf c1 c2 f else q = []
/-- The label, if it is here. -/
theorem good_there (base n : Int) (f t i : Nat) (q : Waits) :
    goodQ base n (if i = t then [thereL] else []) ((wordsI f i, if t < i then labD base f t else .map []), q) = some ((wordsI f i, if t < i + 1 then labD base f t else .map []), q) := by
  by_cases h : i = t
  · subst h
    rw [if_pos rfl, if_neg (Nat.lt_irrefl _), if_pos (Nat.lt_succ_self _)]
    unfold goodQ
    rw [stepQ_there, wordsI_len]
    rfl
  · rw [if_neg h]
    have : (t < i + 1) = (t < i) := by rw [eq_iff_iff]; omega
    simp only [this]
    rfl
theorem good_ins (base n : Int) (f i : Nat) (D : DataW Unit) (q : Waits) (hq : WaitsI f i q) :
    ∃ q', WaitsI f (i + 1) q' ∧ goodQ base n (if i = f then [bneL, jL] else [adduL]) ((wordsI f i, D), q) = some ((wordsI f (i + 1), D), q') := by
  have hl := wordsI_len f i
  unfold WaitsI at hq
  simp only [wordsI]
  by_cases h : i = f
  · subst h
    rw [if_neg (Nat.lt_irrefl _)] at hq hl
    subst hq
    refine ⟨waitsOf n (n + 1) i, ?_, ?_⟩
    · unfold WaitsI
      rw [if_pos (Nat.lt_succ_self _)]
      exact ⟨_, _, rfl⟩
    · rw [if_pos rfl, if_pos rfl]
      unfold goodQ
      rw [stepQ_bne]
      simp only
      unfold goodQ
      rw [stepQ_j]
      simp only
      unfold goodQ
      simp only [List.length_append, hl, List.append_assoc]
      rfl
  · refine ⟨q, ?_, ?_⟩
    · unfold WaitsI
      by_cases h2 : f < i
      · rw [if_pos h2] at hq; rw [if_pos (by omega)]; exact hq
      · rw [if_neg h2] at hq; rw [if_neg (by omega)]; exact hq
    · rw [if_neg h, if_neg h]
      unfold goodQ
      rw [stepQ_addu]
      rfl
theorem good_linesI (base : Int) (f t : Nat) : ∀ i, ∃ q, WaitsI f i q ∧ goodQ base 0 (linesI f t i) (([], .map []), []) = some ((wordsI f i, if t < i then labD base f t else .map []), q)
  | 0 => ⟨[], by unfold WaitsI; rw [if_neg (by omega)], by rw [if_neg (by omega)]; rfl⟩
  | i + 1 => by
    obtain ⟨q, hq, hg⟩ := good_linesI base f t i
    obtain ⟨q', hq', hg'⟩ := good_ins base (0 + (linesI f t i).length + (if i = t then [thereL] else []).length) f i (if t < i + 1 then labD base f t else .map []) q hq
    refine ⟨q', hq', ?_⟩
    simp only [linesI, lineAt]
    rw [goodQ_app _ _ _ _ _ hg, goodQ_app _ _ _ _ _ (good_there base _ f t i q), hg']
theorem good_linesJ (base : Int) (f t many : Nat) (hf : f < many) (ht : t ≤ many) : ∃ c1 c2, goodQ base 0 (linesI f t many ++ (if many = t then [thereL] else [])) (([], .map []), []) = some ((wordsI f many, labD base f t), waitsOf c1 c2 f) := by
  obtain ⟨q, hq, hg⟩ := good_linesI base f t many
  unfold WaitsI at hq
  rw [if_pos hf] at hq
  obtain ⟨c1, c2, rfl⟩ := hq
  refine ⟨c1, c2, ?_⟩
  rw [goodQ_app _ _ _ _ _ hg, good_there, if_pos (by omega)]
theorem one_more (f i : Nat) : (if f < i + 1 then 1 else 0) = (if f < i then 1 else 0) + (if i = f then 1 else 0) := by
  by_cases h1 : f < i
  · rw [if_pos h1, if_pos (by omega), if_neg (by omega)]
  · by_cases h2 : i = f
    · rw [if_neg h1, if_pos (by omega), if_pos h2]
    · rw [if_neg h1, if_neg (by omega), if_neg h2]
theorem linesI_many (f t : Nat) : ∀ i, (linesI f t i).length ≤ i + (if f < i then 1 else 0) + (if t < i then 1 else 0)
  | 0 => by simp [linesI]
  | i + 1 => by
    have ih := linesI_many f t i
    have a : (if i = t then [thereL] else []).length = (if i = t then 1 else 0) := by split <;> rfl
    have b : (if i = f then [bneL, jL] else [adduL]).length = 1 + (if i = f then 1 else 0) := by split <;> rfl
    simp only [linesI, lineAt, List.length_append]
    rw [a, b, one_more f i, one_more t i]
    omega
theorem linesI_short (f t : Nat) : ∀ i, ∀ s ∈ linesI f t i, s.length ≤ 100
  | 0, s, hs => by cases hs
  | i + 1, s, hs => by
    simp only [linesI, lineAt] at hs
    rcases List.mem_append.1 hs with hs | hs
    · exact linesI_short f t i s hs
    · rcases List.mem_append.1 hs with hs | hs
      · split at hs
        · rcases List.mem_singleton.1 hs with rfl; decide
        · cases hs
      · split at hs
        · simp only [List.mem_cons, List.not_mem_nil, or_false] at hs
          rcases hs with rfl | rfl <;> decide
        · rcases List.mem_singleton.1 hs with rfl; decide
end Go.Proofs.YtnppegldebocmaaGreatDoor
namespace Go.Proofs.YtnppegldebocmaaGreatDoor
open Go.RowKit Go.Maps
set_option linter.unusedVariables false
theorem and_hi (a : Int) (h0 : 0 ≤ a) (h1 : a < 268435456) : bits .and .u32 a 4026531840 = 0 := by
  obtain ⟨n, rfl⟩ := Int.eq_ofNat_of_zero_le h0
  have e := u32_and_nat n 4026531840 (by omega) (by decide)
  have e2 : n &&& 4026531840 = n / 268435456 % 16 * 268435456 := and_field n 28 4
  have e3 : n / 268435456 = 0 := Nat.div_eq_of_lt (by omega)
  rw [e3] at e2
  refine e.trans ?_
  rw [e2]
  rfl
theorem far_quot : ∀ k : Nat, k < 200 → (wrap64 ((wrap64 (wrap32 ((4 * ((k : Int) - 100)) % 4294967296))).tdiv 4) = (k : Int) - 100) := by decide +kernel
theorem here_place (base : Int) (f t : Nat) (hb0 : 0 ≤ base) (hb1 : base ≤ 1048576) (ht : t ≤ 60) : hereZ base (placeN f t) = base + 4 * (placeN f t : Int) ∧ placeN f t ≤ 61 := by
  have h : placeN f t ≤ 61 := by unfold placeN; split <;> omega
  refine ⟨?_, h⟩
  unfold hereZ
  omega
theorem brNew_bne (base : Int) (f t : Nat) (hb0 : 0 ≤ base) (hb1 : base ≤ 1048576) (hf : f < 60) (ht : t ≤ 60) :
    brNew base (hereZ base (placeN f t)) f (bneI 0) = some (bneI (((placeN f t : Int) - (f : Int) - 1) % 65536)) := by
  obtain ⟨e, hP⟩ := here_place base f t hb0 hb1 ht
  have h1 : (((base + 4 * (placeN f t : Int)) - ((base + 4 * (f : Int)) % 4294967296 + 4) % 4294967296) % 4294967296) = (4 * (((placeN f t + 99 - f : Nat) : Int) - 100)) % 4294967296 := by omega
  have h2 := far_quot (placeN f t + 99 - f) (by omega)
  have h3 : (((placeN f t + 99 - f : Nat) : Int) - 100) = (placeN f t : Int) - (f : Int) - 1 := by omega
  unfold brNew
  rw [e, h1, h2, h3, if_neg (by decide), if_neg (by omega), and_imm]
theorem brNew_j (base : Int) (f t : Nat) (hb0 : 0 ≤ base) (hb1 : base ≤ 1048576) (hf : f < 60) (ht : t ≤ 60) :
    brNew base (hereZ base (placeN f t)) (f + 1) (jI 0) = some (jI ((base + 4 * (placeN f t : Int)) / 4)) := by
  obtain ⟨e, hP⟩ := here_place base f t hb0 hb1 ht
  have h26 := and_26 ((base + 4 * (placeN f t : Int)) / 4) (by omega) (by omega)
  have h27 : bits .and .u32 ((base + 4 * (placeN f t : Int)) / 4) 67108863 = (base + 4 * (placeN f t : Int)) / 4 := h26.trans (by omega)
  unfold brNew
  rw [e, if_pos (by decide), and_hi _ (by omega) (by omega), and_hi _ (by omega) (by omega), if_pos rfl, h27]
theorem lab_has (base : Int) (f t : Nat) : Maps.has (labD base f t) (.string thereN) = true := by
  have e : (Lit.string thereN).sameKey (Lit.string thereN) = true := by decide
  unfold labD
  simp [Maps.has, DataW.put, DataW.insert, e]
theorem lab_at (base : Int) (f t : Nat) : (labD base f t).atKey (.string thereN) (.lit (.int .u32 0)) = .lit (.int .u32 (hereZ base (placeN f t))) := by
  have e : (Lit.string thereN).sameKey (Lit.string thereN) = true := by decide
  unfold labD
  simp [DataW.atKey, DataW.put, DataW.insert, e]
def wordA (f t : Nat) : Int := encL (bneI (((placeN f t : Int) - (f : Int) - 1) % 65536)) (fieldsB 32)
def wordJ (base : Int) (f t : Nat) : Int := encL (jI ((base + 4 * (placeN f t : Int)) / 4)) (fieldsB 29)
theorem settled (base : Int) (f t many : Nat) (c1 c2 : Int) (hb0 : 0 ≤ base) (hb1 : base ≤ 1048576) (hf : f < many) (hm : many ≤ 60) (ht : t ≤ many) :
    ∃ r, SettleS base (labD base f t) (waitsOf c1 c2 f) (wordsI f many) r ∧ r.length = many + 1 ∧ r[f]? = some (wordA f t) ∧ r[f + 1]? = some (wordJ base f t) := by
  obtain ⟨e, hP⟩ := here_place base f t hb0 hb1 (by omega)
  have hl := wordsI_len f many
  rw [if_pos hf] at hl
  obtain ⟨a, b⟩ := wordsI_at f many hf
  obtain ⟨gb, fb⟩ := good_bne (((placeN f t : Int) - (f : Int) - 1) % 65536) (by omega) (by omega)
  obtain ⟨gj, fj⟩ := good_j ((base + 4 * (placeN f t : Int)) / 4) (by omega) (by omega)
  have h0 : 0 ≤ hereZ base (placeN f t) := by rw [e]; omega
  have h1 : hereZ base (placeN f t) < 4294967296 := by rw [e]; omega
  refine ⟨((wordsI f many).set f (wordA f t)).set (f + 1) (wordJ base f t), ?_, by simp [hl], ?_, ?_⟩
  · refine SettleS.cons c1 f thereN _ _ _ (hereZ base (placeN f t)) bneZ _ (by omega) (by decide) (lab_has base f t) (lab_at base f t) h0 h1 (List.getElem_eq_iff (by omega) |>.2 a) (by decide) (by decide) (by rw [dec_bneZ]; exact brNew_bne base f t hb0 hb1 (by omega) (by omega)) fb gb ?_
    refine SettleS.cons c2 (f + 1) thereN [] _ _ (hereZ base (placeN f t)) jZ _ (by simp; omega) (by decide) (lab_has base f t) (lab_at base f t) h0 h1 ?_ (by decide) (by decide) (by rw [dec_jZ]; exact brNew_j base f t hb0 hb1 (by omega) (by omega)) fj gj ?_
    · rw [List.getElem_set_ne (by omega)]
      exact List.getElem_eq_iff (by omega) |>.2 b
    · exact SettleS.nil _
  · rw [List.getElem?_set_ne (by omega), List.getElem?_set_self (by omega)]
  · rw [List.getElem?_set_self (by simp; omega)]
theorem enc_rng (i : InsN) (k : Nat) (hk : k < 54) (hop : i.op = (k : Int)) (h : encBad i = false) : 0 ≤ encL i (fieldsB k) ∧ encL i (fieldsB k) < 4294967296 := by
  obtain ⟨h1, _, _⟩ := good_parts i k hop h
  obtain ⟨e1, e2, _, _⟩ := enc_parts i k hk hop h1
  rw [e1]
  omega
theorem wordA_ok (f t : Nat) : (0 ≤ wordA f t ∧ wordA f t < 4294967296) ∧ decZ (wordA f t) = bneI (((placeN f t : Int) - (f : Int) - 1) % 65536) :=
  ⟨enc_rng (bneI (((placeN f t : Int) - (f : Int) - 1) % 65536)) 32 (by decide) rfl (bad_bne _ (by omega) (by omega)), dec_bne _ (by omega) (by omega)⟩
theorem wordJ_ok (base : Int) (f t : Nat) (hb0 : 0 ≤ base) (hb1 : base ≤ 1048576) (ht : t ≤ 60) : (0 ≤ wordJ base f t ∧ wordJ base f t < 4294967296) ∧ decZ (wordJ base f t) = jI ((base + 4 * (placeN f t : Int)) / 4) := by
  obtain ⟨e, hP⟩ := here_place base f t hb0 hb1 ht
  exact ⟨enc_rng (jI ((base + 4 * (placeN f t : Int)) / 4)) 29 (by decide) rfl (bad_j _ (by omega) (by omega)), dec_j _ (by omega) (by omega)⟩
end Go.Proofs.YtnppegldebocmaaGreatDoor
namespace Go.Proofs.YtnppegldebocmaaGreatDoor
open Go.RowKit
theorem wide_lo (m : Int) (h0 : 0 ≤ m) (h1 : m < 32768) (w : World) :
    Calls Tryz.prog 19 #[.int .u32 m, .int .i64 16, .bool true] w fun e w' => e = .returned (.int .u32 m) ∧ w = w' := by
  go_enter Tryz.func19, Tryz.ntmps19
  go_wp2
  go_ret
  exact ⟨ret_int rfl, rfl⟩
theorem wide_hi (m : Int) (h0 : 32768 ≤ m) (h1 : m < 65536) (w : World) :
    Calls Tryz.prog 19 #[.int .u32 m, .int .i64 16, .bool true] w fun e w' => e = .returned (.int .u32 (m + 4294901760)) ∧ w = w' := by
  go_enter Tryz.func19, Tryz.ntmps19
  go_wp2
  go_ret
  refine ⟨ret_int ?_, rfl⟩
  unfold wrap32
  omega
theorem add_any (a b : Int) (w : World) :
    Calls Tryz.prog 20 #[.int .u32 a, .int .u32 b] w fun e w' => (∃ c : Bool, e = .returned (.tuple #[.int .u32 ((a + b) % 4294967296), .bool c])) ∧ w = w' := by
  go_enter Tryz.func20, Tryz.ntmps20
  go_wp2
  go_ret2
  exact ⟨⟨_, rfl⟩, rfl⟩
theorem wide_of (d : Int) (h0 : -32768 ≤ d) (h1 : d < 32768) (w : World) :
    Calls Tryz.prog 19 #[.int .u32 (d % 65536), .int .i64 16, .bool true] w fun e w' => e = .returned (.int .u32 (d % 4294967296)) ∧ w = w' := by
  by_cases h : 0 ≤ d
  · rw [show d % 65536 = d from by omega, show d % 4294967296 = d from by omega]
    exact wide_lo d h h1 w
  · rw [show d % 65536 = d + 65536 from by omega, show d % 4294967296 = d + 65536 + 4294901760 from by omega]
    exact wide_hi (d + 65536) (by omega) (by omega) w
theorem shift_of (d : Int) (w : World) :
    Calls Tryz.prog 18 #[.int .u8 60, .int .u32 (d % 4294967296), .int .u32 2] w fun e w' => e = .returned (.int .u32 (4 * d % 4294967296)) ∧ w = w' := by
  refine (shift_up (d % 4294967296) 2 (by decide) w).mono ?_
  rintro e w' ⟨rfl, rfl⟩
  refine ⟨ret_int ?_, rfl⟩
  have hp : p2 2 = 4 := by decide
  rw [hp]
  omega
end Go.Proofs.YtnppegldebocmaaGreatDoor
