/- The plain law of reading, last part: an instruction's text is read as it; a text that is read is its instruction's. No program in sight. Conditions: as each theorem states. -/
import Derived.Test.YtnppegldebocmaaGreatDoorParseS
namespace Go.Proofs.YtnppegldebocmaaGreatDoor
open Go.RowKit
set_option linter.unusedVariables false
theorem dec_len (u : Nat) (h : u < 10000000000) : (Lib.decDigits u).length ≤ 10 := by
  have hd : ∀ k u, u < 10 ^ (k + 1) → (Lib.decDigits u).length ≤ k + 1 := by
    intro k
    induction k with
    | zero => intro u hu; rw [Lib.decDigits_one (by simpa using hu)]; simp
    | succ k ih =>
      intro u hu
      by_cases h10 : u < 10
      · rw [Lib.decDigits_one h10]; simp
      · rw [Lib.decDigits, dif_neg h10, List.length_append]
        have := ih (u / 10) (by rw [Nat.pow_succ] at hu; omega)
        simp only [List.length_cons, List.length_nil]
        omega
  exact hd 9 u (by simpa using h)
theorem dec_head (u : Nat) (h : (Lib.decDigits u).head? = some 48) : u = 0 := by
  by_cases h0 : u = 0
  · exact h0
  · exfalso
    have hne : ∀ u : Nat, u ≠ 0 → (Lib.decDigits u).head? ≠ some 48 := by
      intro u
      induction u using Nat.strongRecOn with
      | _ u ih =>
        intro hu0
        by_cases h10 : u < 10
        · rw [Lib.decDigits_one h10]
          simp only [List.head?_cons, ne_eq, Option.some.injEq]
          intro e
          have := congrArg UInt8.toNat e
          rw [dig_num u h10] at this
          have e48 : (48 : UInt8).toNat = 48 := rfl
          omega
        · rw [Lib.decDigits, dif_neg h10]
          have hx := ih (u / 10) (by omega) (by omega)
          cases hdd : Lib.decDigits (u / 10) with
          | nil =>
            rw [Lib.decDigits] at hdd
            split at hdd <;> simp at hdd
          | cons a b => rw [hdd] at hx; exact hx
    exact hne u h0 h
/-- A small number's text is that number. -/
theorem num_itoa (n : Int) (h0 : -10000000000 < n) (h1 : n < 10000000000) : numB (Lib.itoa n) = some n := by
  have dn : ∀ u, Lib.decDigits u ≠ [] := by
    intro u e
    rw [Lib.decDigits] at e
    split at e <;> simp at e
  have dd : ∀ u, ∀ c ∈ Lib.decDigits u, isDig c = true := fun u c hc => (dig_iff c).2 (dig_chars u c hc)
  unfold Lib.itoa
  split
  · rename_i hn
    have := num_of true (Lib.decDigits n.natAbs) ⟨dd _, dn _, dec_len _ (by omega), fun e => by have := dec_head _ e; omega⟩
    rw [val_dig] at this
    have e : sgn true n.natAbs = n := by unfold sgn; rw [if_pos rfl]; omega
    rw [e] at this
    exact this
  · rename_i hn
    have := num_of false (Lib.decDigits n.toNat) ⟨dd _, dn _, dec_len _ (by omega), fun e => by
      have := dec_head _ e
      rw [this, Lib.decDigits_one (by decide)]
      exact ⟨rfl, rfl⟩⟩
    rw [val_dig] at this
    have e : sgn false n.toNat = n := by unfold sgn; rw [if_neg (by decide)]; omega
    rw [e] at this
    exact this
theorem itoa_num {q : List UInt8} {v : Int} (h : numB q = some v) : Lib.itoa v = q := by
  unfold numB at h
  match ha : Lib.atoiAll q with
  | .ok v' =>
    rw [ha] at h
    simp only at h
    split at h
    · cases h
    · rename_i hn
      have hv : v' = v := Option.some.inj h
      subst hv
      by_cases e : Lib.itoa v' = q
      · exact e
      · exact absurd (Or.inr e) hn
  | .syntax => rw [ha] at h; cases h
  | .range => rw [ha] at h; cases h
theorem reg_itoa (n : Int) (h0 : 0 ≤ n) (h1 : n < 32) : regB (36 :: Lib.itoa n) = (n, 0) := by
  unfold regB
  rw [if_pos (show (36 :: Lib.itoa n).head? = some 36 from rfl), show List.drop 1 (36 :: Lib.itoa n) = Lib.itoa n from rfl, num_itoa n (by omega) (by omega)]
  simp only
  rw [if_neg (by omega), if_neg (by omega)]
/-- A register that is read. -/
theorem reg_read {p : List UInt8} (h : (regB p).2 = 0) : p = 36 :: Lib.itoa (regB p).1 ∧ 0 ≤ (regB p).1 ∧ (regB p).1 < 32 := by
  unfold regB at h ⊢
  by_cases hh : p.head? = some 36
  · rw [if_pos hh] at h ⊢
    have e := head_cons hh
    cases hs : numB (p.drop 1) with
    | none => rw [hs] at h; simp at h
    | some n =>
      rw [hs] at h
      simp only at h ⊢
      have hi := itoa_num hs
      by_cases h0 : n < 0
      · rw [if_pos h0] at h; simp at h
      · rw [if_neg h0] at h ⊢
        by_cases h1 : 31 < n
        · rw [if_pos h1] at h; simp at h
        · rw [if_neg h1]
          refine ⟨by rw [hi]; exact e, by omega, by omega⟩
  · rw [if_neg hh] at h; simp at h
/-- A number that is laid. -/
theorem lay_read {i : InsN} {c : UInt8} {p : List UInt8} (h : (layB i c p).2 = 0) : ∃ n, p = Lib.itoa n ∧ (bndL c).1 ≤ n ∧ n ≤ (bndL c).2 ∧ (layB i c p).1 = ⟨i.op, i.s, i.t, i.d, immOf c n⟩ := by
  unfold layB at h ⊢
  cases hs : numB p with
  | none => rw [hs] at h; simp at h
  | some n =>
    rw [hs] at h
    simp only at h ⊢
    by_cases h1 : n < (bndL c).1 ∨ (bndL c).2 < n
    · rw [if_pos h1] at h; simp at h
    · rw [if_neg h1]
      exact ⟨n, (itoa_num hs).symm, by omega, by omega, rfl⟩
theorem immS_of (n : Int) (h0 : -32768 ≤ n) (h1 : n ≤ 32767) : immS (n % 65536) = n := by unfold immS; split <;> omega
theorem immOf_immS (m : Int) (h0 : 0 ≤ m) (h1 : m < 65536) : immS m % 65536 = m ∧ -32768 ≤ immS m ∧ immS m ≤ 32767 := by unfold immS; split <;> omega
/-- An address that is read. -/
theorem addr_read {i : InsN} {p : List UInt8} (h : (addrB i p).2 = 0) : ∃ n k, p = Lib.itoa n ++ ([40, 36] ++ (Lib.itoa k ++ [41])) ∧ -32768 ≤ n ∧ n ≤ 32767 ∧ 0 ≤ k ∧ k < 32 ∧ (addrB i p).1 = ⟨i.op, k, i.t, i.d, n % 65536⟩ := by
  unfold addrB at h ⊢
  by_cases h1 : (cutC 40 p).2.2 = true ∧ Lib.hasSuffix (cutC 40 p).2.1 [41] = true
  · rw [if_pos h1] at h ⊢
    have e1 := cutC_true 40 p h1.1
    have e2 := of_suf h1.2
    clear h1
    generalize Lib.trimSuffix (cutC 40 p).2.1 [41] = d at *
    generalize (cutC 40 p).1 = a at *
    generalize (cutC 40 p).2.1 = b at *
    cases hs : numB a with
    | none => rw [hs] at h; simp at h
    | some n =>
      rw [hs] at h
      simp only at h ⊢
      by_cases h2 : (regB d).2 = 1
      · rw [if_pos h2] at h; simp at h
      · rw [if_neg h2] at h ⊢
        by_cases h3 : (layB i 109 a).2 ≠ 0
        · rw [if_pos h3] at h; exact absurd h h3
        · rw [if_neg h3] at h ⊢
          simp only at h ⊢
          obtain ⟨r1, r2, r3⟩ := reg_read h
          obtain ⟨n', l1, l2, l3, l4⟩ := lay_read (by omega : (layB i 109 a).2 = 0)
          have hb : bndL 109 = (-32768, 32767) := by decide
          rw [hb] at l2 l3
          refine ⟨n', _, ?_, l2, l3, r2, r3, ?_⟩
          · rw [e1, e2, l1]
            conv => lhs; rw [r1]
            simp
          · rw [l4]
            have hi : immOf 109 n' = n' % 65536 := by unfold immOf; rw [if_pos (Or.inr rfl)]
            rw [hi]
  · rw [if_neg h1] at h; simp at h
theorem addr_itoa (i : InsN) (n k : Int) (h0 : -32768 ≤ n) (h1 : n ≤ 32767) (g0 : 0 ≤ k) (g1 : k < 32) : addrB i (Lib.itoa n ++ ([40, 36] ++ (Lib.itoa k ++ [41]))) = (⟨i.op, k, i.t, i.d, n % 65536⟩, 0) := by
  have hn := num_itoa n (by omega) (by omega)
  have hc : cutC 40 (Lib.itoa n ++ ([40, 36] ++ (Lib.itoa k ++ [41]))) = (Lib.itoa n, 36 :: Lib.itoa k ++ [41], true) := by
    have := cutC_free 40 (Lib.itoa n) (36 :: Lib.itoa k ++ [41]) (not_in (num_chars hn) (by decide) nd_40)
    simpa using this
  obtain ⟨s1, s2⟩ := suf_one (36 :: Lib.itoa k) 41
  have hl : layB i 109 (Lib.itoa n) = (⟨i.op, i.s, i.t, i.d, n % 65536⟩, 0) := by
    unfold layB
    rw [hn]
    simp only
    have hb : bndL 109 = (-32768, 32767) := by decide
    rw [hb, if_neg (by simp only; omega)]
    have hi : immOf 109 n = n % 65536 := by unfold immOf; rw [if_pos (Or.inr rfl)]
    rw [hi]
  unfold addrB
  rw [hc]
  simp only [s1, s2, and_self, if_true, hn, reg_itoa k g0 g1, hl]
  simp
end Go.Proofs.YtnppegldebocmaaGreatDoor
