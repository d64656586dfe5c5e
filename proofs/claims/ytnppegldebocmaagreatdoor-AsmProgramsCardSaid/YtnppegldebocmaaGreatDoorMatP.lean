/- The plain law: the document's test of a word against a row is the program's. No program in sight. Conditions: as each theorem states. -/
import Derived.Test.YtnppegldebocmaaGreatDoorRound2
namespace Go.Proofs.YtnppegldebocmaaGreatDoor
open Go.RowKit
/-- The document's test, in plain words. -/
def matB (x k : Nat) : Bool :=
  let l := fieldsB k
  let minor := if majorN k = 0 then minorN k else if majorN k = 16 ∧ minorN k = 16 then 24 else 0
  let s := if majorN k = 16 then minorN k else 0
  decide (x / 67108864 = majorN k) && (l.contains 106 || ((l.contains 83 || decide (x / 2097152 % 32 = s)) && (l.contains 84 || decide (x / 65536 % 32 = 0)) &&
    (l.contains 105 || ((l.contains 68 || decide (x / 2048 % 32 = 0)) && (l.contains 97 || decide (x / 64 % 32 = 0)) && decide (x % 64 = minor)))))
theorem tab_4 : ∀ k, k < 54 → (fixedN k / 67108864 = majorN k ∧ fixedN k / 2097152 % 32 = (if majorN k = 16 then minorN k else 0) ∧ fixedN k / 65536 % 32 = 0 ∧ fixedN k / 2048 % 32 = 0 ∧ fixedN k / 64 % 32 = 0 ∧
    fixedN k % 64 = (if majorN k = 0 then minorN k else if majorN k = 16 ∧ minorN k = 16 then 24 else 0)) := by decide +kernel
theorem tab_5 : ∀ k, k < 54 → (((fieldsB k).contains 83 = true ∨ (fieldsB k).contains 106 = true → (if majorN k = 16 then minorN k else 0) = 0) ∧ ((fieldsB k).contains 105 = true ∨ (fieldsB k).contains 106 = true → (if majorN k = 0 then minorN k else if majorN k = 16 ∧ minorN k = 16 then 24 else 0) = 0)) := by decide +kernel
theorem and_part (x y u b : Nat) : (x &&& y) / 2 ^ u % 2 ^ b = (x / 2 ^ u % 2 ^ b) &&& (y / 2 ^ u % 2 ^ b) := by
  rw [Nat.and_div_two_pow, Nat.and_mod_two_pow]
theorem full5 (n : Nat) (h : n < 32) : n &&& 31 = n := by
  rw [nat_mask5]; omega
theorem full6 (n : Nat) (h : n < 64) : n &&& 63 = n := by
  rw [nat_mask6]; omega
theorem parts_eq (x y : Nat) : x = y ↔ (x / 67108864 = y / 67108864 ∧ x / 2097152 % 32 = y / 2097152 % 32 ∧ x / 65536 % 32 = y / 65536 % 32 ∧ x / 2048 % 32 = y / 2048 % 32 ∧ x / 64 % 32 = y / 64 % 32 ∧ x % 64 = y % 64) := by
  constructor
  · intro h
    subst h
    simp
  · intro h
    omega
theorem mat_hit (x k : Nat) (hx : x < 4294967296) (hk : k < 54) : matB x k = hitB (x : Int) (k : Int) := by
  have hh : hitB (x : Int) (k : Int) = (decide (x / 67108864 = majorN k) && decide ((x &&& (4294967295 - maskNat (fieldsB k))) = fixedN k)) := by
    unfold hitB majorZ maskZ fixedZ
    rw [maskL_N, u32_andNot_nat x _ hx (maskNat_lt _)]
    simp only [Int.toNat_natCast]
    rw [Bool.eq_iff_iff]
    simp
    omega
  rw [hh]
  obtain ⟨f0, f1, f2, f3, f4, f5⟩ := tab_4 k hk
  obtain ⟨g1, g2⟩ := tab_5 k hk
  have p0 : ∀ K, (x &&& K) / 67108864 = (x / 67108864) &&& (K / 67108864) := fun K => Nat.and_div_two_pow (n := 26)
  have p1 : ∀ K, (x &&& K) / 2097152 % 32 = (x / 2097152 % 32) &&& (K / 2097152 % 32) := fun K => and_part x K 21 5
  have p2 : ∀ K, (x &&& K) / 65536 % 32 = (x / 65536 % 32) &&& (K / 65536 % 32) := fun K => and_part x K 16 5
  have p3 : ∀ K, (x &&& K) / 2048 % 32 = (x / 2048 % 32) &&& (K / 2048 % 32) := fun K => and_part x K 11 5
  have p4 : ∀ K, (x &&& K) / 64 % 32 = (x / 64 % 32) &&& (K / 64 % 32) := fun K => and_part x K 6 5
  have p5 : ∀ K, (x &&& K) % 64 = (x % 64) &&& (K % 64) := fun K => by have := Nat.and_mod_two_pow (a := x) (b := K) (n := 6); exact this
  have q1 := full5 (x / 2097152 % 32) (Nat.mod_lt _ (by decide))
  have q2 := full5 (x / 65536 % 32) (Nat.mod_lt _ (by decide))
  have q3 := full5 (x / 2048 % 32) (Nat.mod_lt _ (by decide))
  have q4 := full5 (x / 64 % 32) (Nat.mod_lt _ (by decide))
  have q5 := full6 (x % 64) (Nat.mod_lt _ (by decide))
  have q0 : (x / 67108864) &&& 63 = x / 67108864 := full6 _ (by omega)
  rw [Bool.eq_iff_iff]
  unfold matB
  simp only [Bool.and_eq_true, Bool.or_eq_true, decide_eq_true_eq]
  rw [parts_eq (x &&& (4294967295 - maskNat (fieldsB k))) (fixedN k), p0, p1, p2, p3, p4, p5, f0, f1, f2, f3, f4, f5]
  clear hh p0 p1 p2 p3 p4 p5 f0 f1 f2 f3 f4 f5
  generalize (if majorN k = 16 then minorN k else 0) = s at *
  generalize (if majorN k = 0 then minorN k else if majorN k = 16 ∧ minorN k = 16 then 24 else 0) = mi at *
  rcases fields_cases k with e | e | e | e | e | e | e | e | e | e | e | e
  all_goals
    rw [e] at g1 g2
    rw [e]
    simp at g1 g2
    simp [maskNat, fmN, q0, q1, q2, q3, q4, q5]
    try omega
end Go.Proofs.YtnppegldebocmaaGreatDoor
