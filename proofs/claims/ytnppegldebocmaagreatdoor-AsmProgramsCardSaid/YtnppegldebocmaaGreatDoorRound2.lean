/- The plain law: an instruction that has a word is what its word is read as. No program in sight. Conditions: the numbers fit. -/
import Derived.Test.YtnppegldebocmaaGreatDoorEncode
import Derived.Test.YtnppegldebocmaaGreatDoorRound
namespace Go.Proofs.YtnppegldebocmaaGreatDoor
open Go.RowKit
/-- A field's term as a number. -/
def termN (i : InsN) (c : UInt8) : Nat := (termF i c).toNat
theorem term_ok (i : InsN) (c : UInt8) (hc : letter c) (h : okF i c = true) : termF i c = (termN i c : Int) ∧ termN i c &&& fmN c = termN i c := by
  unfold okF at h
  simp only [Bool.and_eq_true, decide_eq_true_eq] at h
  obtain ⟨h0, h1⟩ := h
  have low : ∀ (v u b : Nat), v < 2 ^ b → (v * 2 ^ u) &&& ((2 ^ b - 1) * 2 ^ u) = v * 2 ^ u := by
    intro v u b hv
    rw [and_field, Nat.mul_div_cancel _ (Nat.two_pow_pos u), Nat.mod_eq_of_lt hv]
  rcases hc with rfl | rfl | rfl | rfl | rfl | rfl
  · simp only [valF, mostF, termF, termN, fmN] at *
    simp at h0 h1 ⊢
    refine ⟨by omega, ?_⟩
    have := low i.s.toNat 21 5 (by omega)
    rw [show (i.s * 2097152).toNat = i.s.toNat * 2097152 from by omega]
    exact this
  · simp only [valF, mostF, termF, termN, fmN] at *
    simp at h0 h1 ⊢
    refine ⟨by omega, ?_⟩
    have := low i.t.toNat 16 5 (by omega)
    rw [show (i.t * 65536).toNat = i.t.toNat * 65536 from by omega]
    exact this
  · simp only [valF, mostF, termF, termN, fmN] at *
    simp at h0 h1 ⊢
    refine ⟨by omega, ?_⟩
    have := low i.d.toNat 11 5 (by omega)
    rw [show (i.d * 2048).toNat = i.d.toNat * 2048 from by omega]
    exact this
  · simp only [valF, mostF, termF, termN, fmN] at *
    simp at h0 h1 ⊢
    refine ⟨by omega, ?_⟩
    have := low i.imm.toNat 6 5 (by omega)
    rw [show (i.imm * 64).toNat = i.imm.toNat * 64 from by omega]
    exact this
  · simp only [valF, mostF, termF, termN, fmN] at *
    simp at h0 h1 ⊢
    refine ⟨by omega, ?_⟩
    have := low i.imm.toNat 0 16 (by omega)
    simpa using this
  · simp only [valF, mostF, termF, termN, fmN] at *
    simp at h0 h1 ⊢
    refine ⟨by omega, ?_⟩
    have := low i.imm.toNat 0 26 (by omega)
    simpa using this
theorem fold_and_zero (l : List UInt8) (t : UInt8 → Nat) (m : Nat) (h : ∀ c ∈ l, t c &&& m = 0) : l.foldl (fun w c => w ||| t c) 0 &&& m = 0 := by
  induction l with
  | nil => simp
  | cons c r ih =>
    simp only [List.foldl_cons]
    rw [fold_from, Nat.and_or_distrib_right, ih (fun d hd => h d (by simp [hd]))]
    simp [h c (by simp)]
theorem fold_and_one (l : List UInt8) (t : UInt8 → Nat) (m : Nat) (c : UInt8) (hc : c ∈ l) (h1 : t c &&& m = t c) (h : ∀ d ∈ l, d ≠ c → t d &&& m = 0) : l.foldl (fun w c => w ||| t c) 0 &&& m = t c := by
  induction l with
  | nil => cases hc
  | cons a r ih =>
    simp only [List.foldl_cons]
    rw [fold_from, Nat.and_or_distrib_right, Nat.zero_or]
    by_cases e : a = c
    · subst e
      by_cases hm : a ∈ r
      · rw [ih hm (fun d hd => h d (by simp [hd])), h1, Nat.or_self]
      · rw [h1, fold_and_zero r t m (fun d hd => h d (by simp [hd]) (fun e => hm (e ▸ hd))), Nat.or_zero]
    · have hm : c ∈ r := by
        rcases List.mem_cons.1 hc with e' | e'
        · exact absurd e'.symm e
        · exact e'
      rw [h a (by simp) e, ih hm (fun d hd => h d (by simp [hd])), Nat.zero_or]
theorem tab_1 : ∀ k, k < 54 → (fixedN k &&& (4294967295 - maskNat (fieldsB k)) = fixedN k ∧ fixedN k / 67108864 = majorN k ∧ (∀ c ∈ fieldsB k, fmN c &&& (4294967295 - maskNat (fieldsB k)) = 0 ∧ fixedN k &&& fmN c = 0 ∧ fmN c < 67108864 ∧ ∀ d ∈ fieldsB k, d ≠ c → fmN d &&& fmN c = 0)) := by decide +kernel
/-- The bits that tell operations of one major apart. -/
def keyN (k : Nat) : Nat := if majorN k = 0 then 63 else if majorN k = 16 then 65011712 else 0
theorem tab_2 : ∀ k, k < 54 → (4294967295 - maskNat (fieldsB k)) &&& keyN k = keyN k := by decide +kernel
theorem tab_3 : ∀ k, k < 54 → ∀ j, j < 54 → (1 ≤ k ∧ 1 ≤ j ∧ majorN k = majorN j ∧ fixedN k &&& keyN k = fixedN j &&& keyN j → k = j) := by decide +kernel
theorem hit_one (x : Nat) (hx : x < 4294967296) (k j : Nat) (hk : k < 54) (hj : j < 54) (hk1 : 1 ≤ k) (hj1 : 1 ≤ j) (h1 : hitB (x : Int) (k : Int) = true) (h2 : hitB (x : Int) (j : Int) = true) : k = j := by
  obtain ⟨a1, a2⟩ := hit_parts x hx k h1
  obtain ⟨b1, b2⟩ := hit_parts x hx j h2
  have hm : majorN k = majorN j := a1.symm.trans b1
  have hkey : keyN k = keyN j := by unfold keyN; rw [hm]
  refine tab_3 k hk j hj ⟨hk1, hj1, hm, ?_⟩
  rw [← a2, ← b2, Nat.and_assoc, Nat.and_assoc, tab_2 k hk, tab_2 j hj, hkey]
theorem decFrom_none (x : Int) : ∀ (f n : Nat), 1 ≤ n → decFrom x f n = ⟨0, 0, 0, 0, 0⟩ → ∀ k : Nat, n ≤ k → k < n + f → hitB x (k : Int) = false := by
  intro f
  induction f with
  | zero => intro n _ _ k h1 h2; omega
  | succ f ih =>
    intro n hn h k h1 h2
    rw [decFrom] at h
    by_cases e : hitB x (n : Int) = true
    · rw [if_pos e] at h
      have := decAt_op x (n : Int)
      rw [h] at this
      have : (0 : Int) = (n : Int) := this
      omega
    · rw [if_neg e] at h
      by_cases ek : k = n
      · subst ek; exact Bool.eq_false_iff.2 e
      · exact ih (n + 1) (by omega) h k (by omega) (by omega)
/-- A word that is of one operation is read as that. -/
theorem decZ_hit (x : Nat) (hx : x < 4294967296) (k : Nat) (hk1 : 1 ≤ k) (hk : k < 54) (h : hitB (x : Int) (k : Int) = true) : decZ (x : Int) = decAt (x : Int) (k : Int) := by
  rcases decZ_cases (x : Int) with e | ⟨j, a, b, c, d⟩
  · have := decFrom_none (x : Int) 53 1 (by omega) e k hk1 (by omega)
    rw [h] at this
    cases this
  · rw [d, hit_one x hx k j hk b hk1 a h c]
def encN (i : InsN) (k : Nat) : Nat := fixedN k ||| (fieldsB k).foldl (fun w c => w ||| termN i c) 0
theorem fold_lt (l : List UInt8) (t : UInt8 → Nat) (h : ∀ c ∈ l, t c < 67108864) : l.foldl (fun w c => w ||| t c) 0 < 67108864 := by
  induction l with
  | nil => simp
  | cons c r ih =>
    simp only [List.foldl_cons]
    rw [fold_from, Nat.zero_or]
    exact Nat.or_lt_two_pow (n := 26) (h c (by simp)) (ih (fun d hd => h d (by simp [hd])))
theorem enc_parts (i : InsN) (k : Nat) (hk : k < 54) (hop : i.op = (k : Int)) (hall : (fieldsB k).all (okF i) = true) :
    encL i (fieldsB k) = (encN i k : Int) ∧ encN i k < 4294967296 ∧ hitB (encN i k : Int) (k : Int) = true ∧ ∀ c ∈ fieldsB k, encN i k &&& fmN c = termN i c := by
  obtain ⟨t1, t2, t3⟩ := tab_1 k hk
  have hok : ∀ c ∈ fieldsB k, termF i c = (termN i c : Int) ∧ termN i c &&& fmN c = termN i c := fun c hc => term_ok i c (fieldsB_letter k c hc) (List.all_eq_true.1 hall c hc)
  have hle : ∀ c ∈ fieldsB k, termN i c ≤ fmN c := fun c hc => by rw [← (hok c hc).2]; exact Nat.and_le_right
  have hT : (fieldsB k).foldl (fun w c => w ||| termN i c) 0 < 67108864 := fold_lt _ _ fun c hc => Nat.lt_of_le_of_lt (hle c hc) (t3 c hc).2.2.1
  have hlt : encN i k < 4294967296 := Nat.or_lt_two_pow (n := 32) (fixedN_lt k) (by omega)
  have hdis : ∀ c ∈ fieldsB k, ∀ d ∈ fieldsB k, d ≠ c → termN i d &&& fmN c = 0 := fun c hc d hd hne => by
    rw [← (hok d hd).2, Nat.and_assoc, (t3 c hc).2.2.2 d hd hne, Nat.and_zero]
  refine ⟨?_, hlt, ?_, ?_⟩
  · unfold encL
    have e : fixedZ i.op = (fixedN k : Int) := by unfold fixedZ; rw [hop]; simp
    rw [e, fold_or (fieldsB k) (termN i) (fun c hc => Nat.lt_of_le_of_lt (hle c hc) (fmN_lt c)) _ (fun c hc => (hok c hc).1) (fixedN k) (fixedN_lt k), fold_from]
    rfl
  · have h1 : encN i k / 67108864 = majorN k := by
      have : encN i k / 2 ^ 26 = fixedN k / 2 ^ 26 ||| (fieldsB k).foldl (fun w c => w ||| termN i c) 0 / 2 ^ 26 := Nat.or_div_two_pow
      rw [Nat.div_eq_of_lt (show _ < 2 ^ 26 from hT), Nat.or_zero] at this
      exact this.trans t2
    have h2 : encN i k &&& (4294967295 - maskNat (fieldsB k)) = fixedN k := by
      unfold encN
      rw [Nat.and_or_distrib_right, t1, fold_and_zero, Nat.or_zero]
      intro c hc
      rw [← (hok c hc).2, Nat.and_assoc, (t3 c hc).1, Nat.and_zero]
    unfold hitB majorZ maskZ fixedZ
    rw [maskL_N, u32_andNot_nat _ _ hlt (maskNat_lt _)]
    simp only [Int.toNat_natCast]
    rw [h2]
    simp
    omega
  · intro c hc
    unfold encN
    rw [Nat.and_or_distrib_right, (t3 c hc).2.1, Nat.zero_or]
    exact fold_and_one _ _ _ c hc (hok c hc).2 (fun d hd hne => hdis c hc d hd hne)
theorem good_parts (i : InsN) (k : Nat) (hop : i.op = (k : Int)) (h : encBad i = false) : (fieldsB k).all (okF i) = true ∧ [83, 84, 68].any (bad2 i) = false ∧ ((fieldsB k).any ([97, 105, 106].contains ·) = true ∨ i.imm = 0) := by
  unfold encBad at h
  rw [hop] at h
  simp only [Int.toNat_natCast, Bool.or_eq_false_iff, Bool.and_eq_false_iff, Bool.not_eq_false'] at h
  obtain ⟨⟨h1, h2⟩, h3⟩ := h
  refine ⟨h1, h2, ?_⟩
  rcases h3 with h | h
  · exact Or.inl h
  · exact Or.inr (by simpa using h)
/-- An instruction that has a word is what its word is read as. -/
theorem dec_of_enc (i : InsN) (k : Nat) (hk1 : 1 ≤ k) (hk : k < 54) (hop : i.op = (k : Int)) (m0 : 0 ≤ i.imm) (h : encBad i = false) : decZ (encL i (fieldsB k)) = i := by
  obtain ⟨h1, h2, h3⟩ := good_parts i k hop h
  obtain ⟨e1, e2, e3, e4⟩ := enc_parts i k hk hop h1
  rw [e1, decZ_hit _ e2 k hk1 hk e3]
  have hb : ∀ c ∈ ([83, 84, 68] : List UInt8), (fieldsB k).contains c = true ∨ valF i c = 0 := by
    intro c hc
    have := List.any_eq_false.1 h2 c hc
    unfold bad2 at this
    rw [hop] at this
    by_cases a : (fieldsB k).contains c = true
    · exact Or.inl a
    · right
      have a' : (fieldsB k).contains c = false := by simpa using a
      simp only [Int.toNat_natCast, a'] at this
      simpa using this
  have ok : ∀ c ∈ fieldsB k, okF i c = true := fun c hc => List.all_eq_true.1 h1 c hc
  have hs := hb 83 (by decide)
  have ht := hb 84 (by decide)
  have hd := hb 68 (by decide)
  generalize encN i k = x at *
  have e83 : x &&& 65011712 = x / 2097152 % 32 * 2097152 := and_field x 21 5
  have e84 : x &&& 2031616 = x / 65536 % 32 * 65536 := and_field x 16 5
  have e68 : x &&& 63488 = x / 2048 % 32 * 2048 := and_field x 11 5
  have e97 : x &&& 1984 = x / 64 % 32 * 64 := and_field x 6 5
  have e105 : x &&& 65535 = x % 65536 := by have := and_field x 0 16; simpa using this
  have e106 : x &&& 67108863 = x % 67108864 := by have := and_field x 0 26; simpa using this
  have f83 : 83 ∈ fieldsB k → (x : Int) / 2097152 % 32 = i.s := fun hm => by
    have a := e4 83 hm
    have b := ok 83 hm
    simp [okF, valF, mostF] at b
    simp [fmN, termN, termF, e83] at a
    omega
  have f84 : 84 ∈ fieldsB k → (x : Int) / 65536 % 32 = i.t := fun hm => by
    have a := e4 84 hm
    have b := ok 84 hm
    simp [okF, valF, mostF] at b
    simp [fmN, termN, termF, e84] at a
    omega
  have f68 : 68 ∈ fieldsB k → (x : Int) / 2048 % 32 = i.d := fun hm => by
    have a := e4 68 hm
    have b := ok 68 hm
    simp [okF, valF, mostF] at b
    simp [fmN, termN, termF, e68] at a
    omega
  have f97 : 97 ∈ fieldsB k → (x : Int) / 64 % 32 = i.imm := fun hm => by
    have a := e4 97 hm
    have b := ok 97 hm
    simp [okF, valF, mostF] at b
    simp [fmN, termN, termF, e97] at a
    omega
  have f105 : 105 ∈ fieldsB k → (x : Int) % 65536 = i.imm := fun hm => by
    have a := e4 105 hm
    have b := ok 105 hm
    simp [okF, valF, mostF] at b
    simp [fmN, termN, termF, e105] at a
    omega
  have f106 : 106 ∈ fieldsB k → (x : Int) % 67108864 = i.imm := fun hm => by
    have a := e4 106 hm
    have b := ok 106 hm
    simp [okF, valF, mostF] at b
    simp [fmN, termN, termF, e106] at a
    omega
  have hdec : decAt (x : Int) (k : Int) = putL (x : Int) (k : Int) (fieldsB k) := rfl
  rw [hdec]
  clear hdec h2 h1 ok hb e1 e2 e3 e4 e83 e84 e68 e97 e105 e106 h
  obtain ⟨io, is, it, id, im⟩ := i
  simp only [valF] at hs ht hd
  simp only at hop f83 f84 f68 f97 f105 f106 h3
  subst hop
  rcases fields_cases k with e | e | e | e | e | e | e | e | e | e | e | e
  all_goals
    rw [e] at hs ht hd h3 f83 f84 f68 f97 f105 f106
    rw [e]
    simp at hs ht hd h3 f83 f84 f68 f97 f105 f106
    simp [putL, putF]
    omega
end Go.Proofs.YtnppegldebocmaaGreatDoor
