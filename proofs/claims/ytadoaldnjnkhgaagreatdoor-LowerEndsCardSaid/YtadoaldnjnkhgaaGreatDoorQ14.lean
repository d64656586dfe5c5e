/- The walk of the document's matches. Conditions: as each theorem states. -/
import Derived.Test.YtadoaldnjnkhgaaGreatDoorQ13
import Derived.Test.YtadoaldnjnkhgaaGreatDoorQ10
import Derived.Test.YtadoaldnjnkhgaaGreatDoorQ09
import Derived.Deep.QuietTactic
import Derived.BigQuiet
set_option linter.unusedVariables false
set_option linter.unusedSimpArgs false
namespace Go.Proofs.YtadoaldnjnkhgaaGreatDoor
open Go.RowKit
theorem part_lit (x : Int) (u b : Nat) (d m : Int) (hd : p2 u = d) (hm : p2 b = m) (h0 : 0 ≤ x) (h1 : x < 4294967296) (hu : u < 32) (hb : b < 32) (w : World) :
    Calls Tryz.prog 100 #[.int .u32 x, .int .i64 (u : Int), .int .i64 (b : Int)] w fun e w' => e = .returned (.int .i64 (x / d % m)) ∧ w = w' := by
  subst hd hm
  exact part_any x u b h0 h1 hu hb w
abbrev rowV (k : Nat) : Value := .agg #[.string (bsl (nameB k)), .int .i64 (majorN k : Int), .int .i64 (minorN k : Int), .string (bsl (fieldsB k)), .string (bsl (orderB k)), .string (bsl (kindB k))]
theorem tab_6 : ∀ k, k < 54 → ((majorN k = 0 ∧ (fieldsB k = [] ∨ fieldsB k = [83] ∨ fieldsB k = [68] ∨ fieldsB k = [83, 68] ∨ fieldsB k = [83, 84] ∨ fieldsB k = [84, 68, 97] ∨ fieldsB k = [83, 84, 68])) ∨
    (majorN k = 16 ∧ ((fieldsB k = [84, 68] ∧ ¬ minorN k = 16) ∨ (fieldsB k = [] ∧ minorN k = 16))) ∨ (¬ majorN k = 0 ∧ ¬ majorN k = 16 ∧ (fieldsB k = [106] ∨ fieldsB k = [83, 84, 105] ∨ fieldsB k = [83, 105] ∨ fieldsB k = [84, 105]))) := by decide +kernel
end Go.Proofs.YtadoaldnjnkhgaaGreatDoor
