/- Plain facts on the table, and the test of a word against an operation's shape; no program in sight. Conditions: none. -/
import Derived.Test.YtnppegldebocmaaGreatDoorMask
namespace Go.Proofs.YtnppegldebocmaaGreatDoor
open Go.RowKit
instance (c : UInt8) : Decidable (letter c) := by unfold letter; exact inferInstance
theorem fieldsB_letter (k : Nat) : ∀ x ∈ fieldsB k, letter x := by
  by_cases h : k < 54
  · have all : ∀ k, k < 54 → ∀ x ∈ fieldsB k, letter x := by decide
    exact all k h
  · rw [fieldsB_big k (by omega)]
    intro x hx
    cases hx
theorem nums_small (k : Nat) : majorN k < 64 ∧ minorN k < 64 ∧ (majorN k = 16 → minorN k = 0 ∨ minorN k = 4 ∨ minorN k = 16) := by
  by_cases h : k < 54
  · have all : ∀ k, k < 54 → majorN k < 64 ∧ minorN k < 64 ∧ (majorN k = 16 → minorN k = 0 ∨ minorN k = 4 ∨ minorN k = 16) := by decide
    exact all k h
  · rw [majorN_big k (by omega), minorN_big k (by omega)]
    omega
def fixedN (k : Nat) : Nat := if majorN k = 0 then minorN k else if majorN k = 16 then 1073741824 + minorN k * 2097152 + (if minorN k = 16 then 24 else 0) else majorN k * 67108864
def fixedZ (n : Int) : Int := (fixedN n.toNat : Int)
def maskZ (n : Int) : Int := maskL (fieldsB n.toNat)
theorem fixed_any (n : Int) (w : World) : Calls Tryz.prog 44 #[shapeV n] w fun e w' => e = .returned (.int .u32 (fixedZ n)) ∧ Below w.heap.size w w' := by
  obtain ⟨h1, h2, h3⟩ := nums_small n.toNat
  unfold shapeV majorZ minorZ fixedZ fixedN
  by_cases a : majorN n.toNat = 0
  · rw [if_pos a, a]
    exact fixed_0 _ _ _ _ (by omega) (by omega) w
  · rw [if_neg a]
    by_cases b : majorN n.toNat = 16
    · rw [if_pos b, b]
      rcases h3 b with c | c | c
      · rw [c]; exact fixed_16_0 _ _ _ w
      · rw [c]; exact fixed_16_4 _ _ _ w
      · rw [c]; exact fixed_16_16 _ _ _ w
    · rw [if_neg b]
      have e : ((majorN n.toNat * 67108864 : Nat) : Int) = (majorN n.toNat : Int) * 67108864 := by omega
      rw [e]
      exact fixed_m _ _ _ _ _ (by omega) (by omega) (beq_eq_false_iff_ne.2 (by omega)) w
theorem mask_shape (n : Int) (w : World) : Calls Tryz.prog 43 #[shapeV n] w fun e w' => e = .returned (.int .u32 (maskZ n)) ∧ Below w.heap.size w w' :=
  mask_any _ _ _ _ _ (fieldsB_letter _) w
/-- Is a word of an operation? -/
def hitB (w : Int) (n : Int) : Bool := w / 67108864 == majorZ n && bits .andNot .u32 w (maskZ n) == fixedZ n
/-- An instruction as five numbers. -/
structure InsN where
  op : Int
  s : Int
  t : Int
  d : Int
  imm : Int
deriving DecidableEq
abbrev insV (i : InsN) : Value := .agg #[.int .i64 i.op, .int .i64 i.s, .int .i64 i.t, .int .i64 i.d, .int .u32 i.imm]
/-- A field's value out of a word laid into an instruction. -/
def putF (w : Int) (i : InsN) (c : UInt8) : InsN :=
  if c = 83 then { i with s := w / 2097152 % 32 } else if c = 84 then { i with t := w / 65536 % 32 } else if c = 68 then { i with d := w / 2048 % 32 }
  else if c = 97 then { i with imm := w / 64 % 32 } else if c = 105 then { i with imm := w % 65536 } else { i with imm := w % 67108864 }
def putL (w : Int) (n : Int) (l : List UInt8) : InsN := l.foldl (putF w) ⟨n, 0, 0, 0, 0⟩
theorem putL_snoc (w n : Int) (l : List UInt8) (c : UInt8) : putL w n (l ++ [c]) = putF w (putL w n l) c := by simp [putL]
def decAt (w n : Int) : InsN := putL w n (fieldsB n.toNat)
end Go.Proofs.YtnppegldebocmaaGreatDoor
