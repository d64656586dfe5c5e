/- The walks of the document's FieldsOf, isOut, isSize, WriteOf, at any kind of ops. Conditions: as each theorem states. -/
import Derived.Test.YtadoaldnjnkhgaaGreatDoorQ10
import Derived.Test.YtadoaldnjnkhgaaGreatDoorQ05
set_option linter.unusedVariables false
set_option linter.unusedSimpArgs false
namespace Go.Proofs.YtadoaldnjnkhgaaGreatDoor
open Go.RowKit
set_option maxHeartbeats 8000000
set_option maxRecDepth 100000
theorem hasL_bsl (k : OpK) : hasL k = bsl (hasL k).data.toList := by cases k <;> rfl
theorem fieldsOf_any (k : OpK) (w : World) : Calls Tryz.prog 55 #[.string k.lit] w fun e w' => e = .returned (.string (hasL k)) ∧ w = w' := by
  cases k <;> simp only [OpK.lit, hasL] <;> (go_enter Tryz.func55, Tryz.ntmps55; go_wp2; go_ret; exact ⟨rfl, rfl⟩)
theorem isoD (k : OpK) (wx : World) : Calls Tryz.prog 52 #[.string (hasL k), .int .u8 68] wx fun e w' => e = .returned (.bool (hasD k)) ∧ wx = w' := by
  rw [hasL_bsl]
  exact isOf_lit (hasL k).data.toList (by cases k <;> decide) 68 68 (by decide) _ (by cases k <;> exact Lib.hid rfl) wx
theorem isoA (k : OpK) (wx : World) : Calls Tryz.prog 52 #[.string (hasL k), .int .u8 65] wx fun e w' => e = .returned (.bool (hasA k)) ∧ wx = w' := by
  rw [hasL_bsl]
  exact isOf_lit (hasL k).data.toList (by cases k <;> decide) 65 65 (by decide) _ (by cases k <;> exact Lib.hid rfl) wx
theorem isoB (k : OpK) (wx : World) : Calls Tryz.prog 52 #[.string (hasL k), .int .u8 66] wx fun e w' => e = .returned (.bool (hasB k)) ∧ wx = w' := by
  rw [hasL_bsl]
  exact isOf_lit (hasL k).data.toList (by cases k <;> decide) 66 66 (by decide) _ (by cases k <;> exact Lib.hid rfl) wx
theorem isoI (k : OpK) (wx : World) : Calls Tryz.prog 52 #[.string (hasL k), .int .u8 73] wx fun e w' => e = .returned (.bool (hasI k)) ∧ wx = w' := by
  rw [hasL_bsl]
  exact isOf_lit (hasL k).data.toList (by cases k <;> decide) 73 73 (by decide) _ (by cases k <;> exact Lib.hid rfl) wx
theorem isOut_any (o : OpN) (w : World) : Calls Tryz.prog 28 #[opA (bsl o.kind.text) o.d o.a o.b o.imm o.at'] w fun e w' => e = .returned (.bool (outK o.kind)) ∧ Below w.heap.size w w' := by
  obtain ⟨k, d, a, b, imm, n⟩ := o
  rw [lit_text]
  have HB := Lib.hid ((Below.refl w.heap.size w).alloc (Nat.le_refl _) (.cells #[.string k.lit, .int .i64 (d : Int), .int .i64 (a : Int), .int .i64 b, .int .u32 imm, .int .i64 (n : Int)] 86))
  cases k <;> simp only [OpK.lit, outK] at HB ⊢ <;> (go_enter Tryz.func28, Tryz.ntmps28; go_wp2; go_ret; exact ⟨rfl, HB.out⟩)
def writeD (o : OpN) : Nat := match o.kind with
  | .overP => 0 | .overM => 0 | .store => 0 | .cond => 0 | .out => 0 | .outr => 0 | _ => o.d
theorem writeOf_any (o : OpN) (w : World) : Calls Tryz.prog 59 #[opA (bsl o.kind.text) o.d o.a o.b o.imm o.at'] w fun e w' => e = .returned (.int .i64 (writeD o : Int)) ∧ Below w.heap.size w w' := by
  obtain ⟨k, d, a, b, imm, n⟩ := o
  rw [lit_text]
  have HB := Lib.hid ((Below.refl w.heap.size w).alloc (Nat.le_refl _) (.cells #[.string k.lit, .int .i64 (d : Int), .int .i64 (a : Int), .int .i64 b, .int .u32 imm, .int .i64 (n : Int)] 86))
  have HF := Lib.hid (fieldsOf_any k)
  have HD := Lib.hid (isoD k)
  cases k <;> simp only [OpK.lit, hasD, writeD] at HB HF HD ⊢ <;> (go_enter Tryz.func59, Tryz.ntmps59; go_wp2_with (first | (go_at_call 55; (with_reducible refine (HF.out _).mono ?_); rintro e w1 ⟨rfl, rfl⟩) | (go_at_call 52; (with_reducible refine (HD.out _).mono ?_); rintro e w1 ⟨rfl, rfl⟩)); go_ret; exact ⟨rfl, HB.out⟩)
theorem isSize_d (n : Nat) (hn : n = 1 ∨ n = 2 ∨ n = 4) (w : World) : Calls Tryz.prog 56 #[.int .i64 (n : Int), .bool false] w fun e w' => e = .returned (.bool true) ∧ w = w' := by
  rcases hn with rfl | rfl | rfl <;> (go_enter Tryz.func56, Tryz.ntmps56; go_wp2; go_ret; exact ⟨rfl, rfl⟩)
theorem isSize_b (b : Int) (hb : b = 1 ∨ b = 2 ∨ b = 4 ∨ b = -1 ∨ b = -2) (w : World) : Calls Tryz.prog 56 #[.int .i64 b, .bool true] w fun e w' => e = .returned (.bool true) ∧ w = w' := by
  rcases hb with rfl | rfl | rfl | rfl | rfl <;> (go_enter Tryz.func56, Tryz.ntmps56; go_wp2; go_ret; exact ⟨rfl, rfl⟩)
end Go.Proofs.YtadoaldnjnkhgaaGreatDoor
