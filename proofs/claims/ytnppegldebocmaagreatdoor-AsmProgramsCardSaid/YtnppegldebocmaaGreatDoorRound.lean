/- The plain law: a word that is an instruction is that instruction's word; an instruction that has a word is its instruction. No program in sight. Conditions: as each theorem states. -/
import Derived.Test.YtnppegldebocmaaGreatDoorEncP
namespace Go.Proofs.YtnppegldebocmaaGreatDoor
open Go.RowKit
theorem and_field (x u b : Nat) : x &&& ((2 ^ b - 1) * 2 ^ u) = x / 2 ^ u % 2 ^ b * 2 ^ u := by
  apply Nat.eq_of_testBit_eq
  intro i
  rw [Nat.testBit_and, Nat.testBit_mul_two_pow, Nat.testBit_mul_two_pow, Nat.testBit_two_pow_sub_one, Nat.testBit_mod_two_pow, Nat.testBit_div_two_pow]
  by_cases h : u ≤ i
  · simp only [h, decide_true, Bool.true_and]
    rw [show i - u + u = i from by omega]
    exact Bool.and_comm _ _
  · simp [h]
def fmN (c : UInt8) : Nat := if c = 83 then 65011712 else if c = 84 then 2031616 else if c = 68 then 63488 else if c = 97 then 1984 else if c = 105 then 65535 else 67108863
def maskNat (l : List UInt8) : Nat := l.foldl (fun m c => m ||| fmN c) 0
theorem fmN_Z (c : UInt8) : fieldMask c = (fmN c : Int) := by
  unfold fieldMask fmN
  repeat (first | rfl | (split))
theorem fmN_lt (c : UInt8) : fmN c < 4294967296 := by
  unfold fmN
  repeat (first | omega | split)
theorem maskNat_lt (l : List UInt8) : maskNat l < 4294967296 := by
  have gen : ∀ (l : List UInt8) (m : Nat), m < 2 ^ 32 → l.foldl (fun m c => m ||| fmN c) m < 2 ^ 32 := by
    intro l
    induction l with
    | nil => intro m h; exact h
    | cons c r ih => intro m h; exact ih _ (Nat.or_lt_two_pow h (fmN_lt c))
  exact gen l 0 (by decide)
theorem maskL_N (l : List UInt8) : maskL l = (maskNat l : Int) := by
  have gen : ∀ (l : List UInt8) (m : Nat), m < 2 ^ 32 → l.foldl (fun m c => bits .or .u32 m (fieldMask c)) (m : Int) = ((l.foldl (fun m c => m ||| fmN c) m : Nat) : Int) := by
    intro l
    induction l with
    | nil => intro m h; rfl
    | cons c r ih =>
      intro m h
      simp only [List.foldl_cons]
      rw [fmN_Z, u32_or_nat m (fmN c) h (fmN_lt c)]
      exact ih _ (Nat.or_lt_two_pow h (fmN_lt c))
  exact gen l 0 (by decide)
/-- The fields of an operation are one of twelve texts. -/
theorem fields_cases (k : Nat) : fieldsB k = [] ∨ fieldsB k = [83] ∨ fieldsB k = [68] ∨ fieldsB k = [83, 68] ∨ fieldsB k = [83, 84] ∨ fieldsB k = [84, 68, 97] ∨ fieldsB k = [83, 84, 68] ∨ fieldsB k = [106] ∨ fieldsB k = [83, 84, 105] ∨ fieldsB k = [83, 105] ∨ fieldsB k = [84, 105] ∨ fieldsB k = [84, 68] := by
  by_cases h : k < 54
  · have all : ∀ k, k < 54 → (fieldsB k = [] ∨ fieldsB k = [83] ∨ fieldsB k = [68] ∨ fieldsB k = [83, 68] ∨ fieldsB k = [83, 84] ∨ fieldsB k = [84, 68, 97] ∨ fieldsB k = [83, 84, 68] ∨ fieldsB k = [106] ∨ fieldsB k = [83, 84, 105] ∨ fieldsB k = [83, 105] ∨ fieldsB k = [84, 105] ∨ fieldsB k = [84, 68]) := by decide
    exact all k h
  · rw [fieldsB_big k (by omega)]
    simp
/-- What a field's term is, of a word. -/
theorem term_dec (x : Nat) (n : Int) (l : List UInt8) (hl : l = [] ∨ l = [83] ∨ l = [68] ∨ l = [83, 68] ∨ l = [83, 84] ∨ l = [84, 68, 97] ∨ l = [83, 84, 68] ∨ l = [106] ∨ l = [83, 84, 105] ∨ l = [83, 105] ∨ l = [84, 105] ∨ l = [84, 68]) :
    ∀ c ∈ l, termF (putL (x : Int) n l) c = ((x &&& fmN c : Nat) : Int) := by
  have e83 : x &&& 65011712 = x / 2097152 % 32 * 2097152 := and_field x 21 5
  have e84 : x &&& 2031616 = x / 65536 % 32 * 65536 := and_field x 16 5
  have e68 : x &&& 63488 = x / 2048 % 32 * 2048 := and_field x 11 5
  have e97 : x &&& 1984 = x / 64 % 32 * 64 := and_field x 6 5
  have e105 : x &&& 65535 = x % 65536 := by have := and_field x 0 16; simpa using this
  have e106 : x &&& 67108863 = x % 67108864 := by have := and_field x 0 26; simpa using this
  intro c hc
  rcases hl with rfl | rfl | rfl | rfl | rfl | rfl | rfl | rfl | rfl | rfl | rfl | rfl
  all_goals
    simp only [List.mem_cons, List.not_mem_nil, or_false] at hc
    try (rcases hc with rfl | rfl | rfl)
    try (rcases hc with rfl | rfl)
    try subst hc
    all_goals (first | (simp [putL, putF, termF, fmN, e83, e84, e68, e97, e105, e106]; done) | (simp [putL, putF, termF, fmN, e83, e84, e68, e97, e105, e106]; omega))
theorem fold_or (l : List UInt8) (f : UInt8 → Nat) (hf : ∀ c ∈ l, f c < 4294967296) (g : UInt8 → Int) (hg : ∀ c ∈ l, g c = (f c : Int)) : ∀ (m : Nat), m < 4294967296 →
    l.foldl (fun w c => bits .or .u32 w (g c)) (m : Int) = ((l.foldl (fun w c => w ||| f c) m : Nat) : Int) := by
  induction l with
  | nil => intro m h; rfl
  | cons c r ih =>
    intro m h
    simp only [List.foldl_cons]
    rw [hg c (by simp), u32_or_nat m (f c) h (hf c (by simp))]
    exact ih (fun d hd => hf d (by simp [hd])) (fun d hd => hg d (by simp [hd])) _ (Nat.or_lt_two_pow (n := 32) h (hf c (by simp)))
theorem fold_from (l : List UInt8) (f : UInt8 → Nat) : ∀ m : Nat, l.foldl (fun w c => w ||| f c) m = m ||| l.foldl (fun w c => w ||| f c) 0 := by
  induction l with
  | nil => intro m; simp
  | cons c r ih =>
    intro m
    simp only [List.foldl_cons]
    rw [ih (m ||| f c), ih (0 ||| f c), Nat.zero_or, Nat.or_assoc]
theorem fold_and (l : List UInt8) (x : Nat) : l.foldl (fun w c => w ||| (x &&& fmN c)) 0 = x &&& maskNat l := by
  have gen : ∀ (l : List UInt8) (m : Nat), l.foldl (fun w c => w ||| (x &&& fmN c)) (x &&& m) = x &&& l.foldl (fun w c => w ||| fmN c) m := by
    intro l
    induction l with
    | nil => intro m; rfl
    | cons c r ih =>
      intro m
      simp only [List.foldl_cons]
      rw [← Nat.and_or_distrib_left]
      exact ih _
  have := gen l 0
  simpa [maskNat] using this
theorem and_full (x : Nat) (h : x < 4294967296) : x &&& 4294967295 = x := by
  have := Nat.and_two_pow_sub_one_eq_mod x 32
  rw [show (2 : Nat) ^ 32 - 1 = 4294967295 from rfl] at this
  rw [this]
  exact Nat.mod_eq_of_lt h
theorem or_compl (m : Nat) (h : m < 4294967296) : (4294967295 - m) ||| m = 4294967295 := by
  have hx : 4294967295 - m = 4294967295 ^^^ m := by
    apply Nat.eq_of_testBit_eq
    intro i
    rw [show 4294967295 - m = 2 ^ 32 - (m + 1) from by omega, Nat.testBit_two_pow_sub_succ (by simpa using h), Nat.testBit_xor, show (4294967295 : Nat) = 2 ^ 32 - 1 from rfl, Nat.testBit_two_pow_sub_one]
    by_cases hi : i < 32
    · simp [hi]
    · have : m.testBit i = false := Nat.testBit_lt_two_pow (Nat.lt_of_lt_of_le (show m < 2 ^ 32 from h) (Nat.pow_le_pow_right (by decide) (by omega)))
      simp [hi, this]
  rw [hx]
  apply Nat.eq_of_testBit_eq
  intro i
  rw [Nat.testBit_or, Nat.testBit_xor, show (4294967295 : Nat) = 2 ^ 32 - 1 from rfl, Nat.testBit_two_pow_sub_one]
  by_cases hi : i < 32
  · simp [hi]
  · have : m.testBit i = false := Nat.testBit_lt_two_pow (Nat.lt_of_lt_of_le (show m < 2 ^ 32 from h) (Nat.pow_le_pow_right (by decide) (by omega)))
    simp [hi, this]
theorem fixedN_lt (k : Nat) : fixedN k < 4294967296 := by
  obtain ⟨h1, h2, h3⟩ := nums_small k
  unfold fixedN
  repeat (first | omega | split)
theorem hit_parts (x : Nat) (hx : x < 4294967296) (k : Nat) (h : hitB (x : Int) (k : Int) = true) : x / 67108864 = majorN k ∧ (x &&& (4294967295 - maskNat (fieldsB k))) = fixedN k := by
  unfold hitB at h
  rw [Bool.and_eq_true] at h
  obtain ⟨a, b⟩ := h
  have a' := eq_of_beq a
  have b' := eq_of_beq b
  unfold majorZ at a'
  unfold maskZ fixedZ at b'
  rw [maskL_N, u32_andNot_nat x _ hx (maskNat_lt _)] at b'
  simp only [Int.toNat_natCast] at a' b'
  omega
theorem decAt_op (x n : Int) : (decAt x n).op = n := by
  have gen : ∀ (l : List UInt8) (i : InsN), i.op = n → (l.foldl (putF x) i).op = n := by
    intro l
    induction l with
    | nil => intro i h; exact h
    | cons c r ih =>
      intro i h
      refine ih _ ?_
      unfold putF
      repeat (first | exact h | split)
  exact gen _ _ rfl
/-- A word that is of an operation is the word of the instruction that it is read as. -/
theorem enc_of_dec (x : Nat) (hx : x < 4294967296) (k : Nat) (h : hitB (x : Int) (k : Int) = true) : encL (decAt (x : Int) (k : Int)) (fieldsB k) = (x : Int) := by
  obtain ⟨h1, h2⟩ := hit_parts x hx k h
  have ht : ∀ c ∈ fieldsB k, termF (decAt (x : Int) (k : Int)) c = ((x &&& fmN c : Nat) : Int) := term_dec x (k : Int) (fieldsB k) (fields_cases k)
  unfold encL
  rw [decAt_op]
  have e : fixedZ (k : Int) = (fixedN k : Int) := by unfold fixedZ; simp
  rw [e, fold_or (fieldsB k) (fun c => x &&& fmN c) (fun c _ => Nat.lt_of_le_of_lt Nat.and_le_left hx) _ ht (fixedN k) (fixedN_lt k), fold_from, fold_and, ← h2, ← Nat.and_or_distrib_left, or_compl _ (maskNat_lt _), and_full x hx]
theorem decFrom_cases (x : Int) : ∀ (f n : Nat), 1 ≤ n → n + f ≤ 54 → (decFrom x f n = ⟨0, 0, 0, 0, 0⟩) ∨ (∃ k : Nat, n ≤ k ∧ k < n + f ∧ hitB x (k : Int) = true ∧ decFrom x f n = decAt x (k : Int)) := by
  intro f
  induction f with
  | zero => intro n h1 h2; exact Or.inl rfl
  | succ f ih =>
    intro n h1 h2
    rw [decFrom]
    by_cases h : hitB x (n : Int) = true
    · rw [if_pos h]
      exact Or.inr ⟨n, Nat.le_refl _, by omega, h, rfl⟩
    · rw [if_neg h]
      rcases ih (n + 1) (by omega) (by omega) with e | ⟨k, a, b, c, d⟩
      · exact Or.inl e
      · exact Or.inr ⟨k, by omega, by omega, c, d⟩
theorem decZ_cases (x : Int) : decZ x = ⟨0, 0, 0, 0, 0⟩ ∨ (∃ k : Nat, 1 ≤ k ∧ k < 54 ∧ hitB x (k : Int) = true ∧ decZ x = decAt x (k : Int)) := by
  rcases decFrom_cases x 53 1 (by omega) (by omega) with e | ⟨k, a, b, c, d⟩
  · exact Or.inl e
  · exact Or.inr ⟨k, a, by omega, c, d⟩
/-- Two words that are read as one instruction are one. -/
theorem decZ_inj (x y : Nat) (hx : x < 4294967296) (hy : y < 4294967296) (h : decZ (x : Int) = decZ (y : Int)) (h0 : decZ (x : Int) ≠ ⟨0, 0, 0, 0, 0⟩) : x = y := by
  rcases decZ_cases (x : Int) with e | ⟨k, a, b, c, d⟩
  · exact absurd e h0
  · rcases decZ_cases (y : Int) with e | ⟨k', a', b', c', d'⟩
    · exact absurd (h.trans e) h0
    · have hk : (k : Int) = (k' : Int) := by
        rw [← decAt_op (x : Int) (k : Int), ← decAt_op (y : Int) (k' : Int), ← d, ← d', h]
      have hk' : k = k' := by omega
      subst hk'
      have e1 := enc_of_dec x hx k c
      have e2 := enc_of_dec y hy k c'
      rw [← d] at e1
      rw [← d'] at e2
      rw [h] at e1
      omega
end Go.Proofs.YtnppegldebocmaaGreatDoor
