/- What Encode computes, in plain words; the walks of code.value, Kind, Fields, Name. Conditions: as each theorem states. -/
import Derived.Test.YtnppegldebocmaaGreatDoorDecode
namespace Go.Proofs.YtnppegldebocmaaGreatDoor
open Go.RowKit
/-- The numbers of an instruction fit their kinds. -/
structure InsN.Fits (i : InsN) : Prop where
  o0 : -9223372036854775808 ≤ i.op
  o1 : i.op ≤ 9223372036854775807
  s0 : -9223372036854775808 ≤ i.s
  s1 : i.s ≤ 9223372036854775807
  t0 : -9223372036854775808 ≤ i.t
  t1 : i.t ≤ 9223372036854775807
  d0 : -9223372036854775808 ≤ i.d
  d1 : i.d ≤ 9223372036854775807
  m0 : 0 ≤ i.imm
  m1 : i.imm < 4294967296
def valF (i : InsN) (c : UInt8) : Int := if c = 83 then i.s else if c = 84 then i.t else if c = 68 then i.d else i.imm
def mostF (c : UInt8) : Int := if c = 105 then 65536 else if c = 106 then 67108864 else 32
def termF (i : InsN) (c : UInt8) : Int := if c = 83 then i.s * 2097152 else if c = 84 then i.t * 65536 else if c = 68 then i.d * 2048 else if c = 97 then i.imm * 64 else i.imm
def okF (i : InsN) (c : UInt8) : Bool := decide (0 ≤ valF i c) && decide (valF i c < mostF c)
def encL (i : InsN) (l : List UInt8) : Int := l.foldl (fun w c => bits .or .u32 w (termF i c)) (fixedZ i.op)
theorem encL_snoc (i : InsN) (l : List UInt8) (c : UInt8) : encL i (l ++ [c]) = bits .or .u32 (encL i l) (termF i c) := by simp [encL]
theorem value_83 (i : InsN) (w : World) : Calls Tryz.prog 58 #[insV i, .int .i32 83] w fun e w' => e = .returned (.int .i64 i.s) ∧ Below w.heap.size w w' := by
  go_enter Tryz.func58, Tryz.ntmps58
  go_wp2
  go_ret
  exact ⟨rfl, by go_grown⟩
theorem value_84 (i : InsN) (w : World) : Calls Tryz.prog 58 #[insV i, .int .i32 84] w fun e w' => e = .returned (.int .i64 i.t) ∧ Below w.heap.size w w' := by
  go_enter Tryz.func58, Tryz.ntmps58
  go_wp2
  go_ret
  exact ⟨rfl, by go_grown⟩
theorem value_68 (i : InsN) (w : World) : Calls Tryz.prog 58 #[insV i, .int .i32 68] w fun e w' => e = .returned (.int .i64 i.d) ∧ Below w.heap.size w w' := by
  go_enter Tryz.func58, Tryz.ntmps58
  go_wp2
  go_ret
  exact ⟨rfl, by go_grown⟩
theorem value_imm (i : InsN) (c : Int) (hc : 97 ≤ c) (m0 : 0 ≤ i.imm) (m1 : i.imm < 4294967296) (w : World) : Calls Tryz.prog 58 #[insV i, .int .i32 c] w fun e w' => e = .returned (.int .i64 i.imm) ∧ Below w.heap.size w w' := by
  go_enter Tryz.func58, Tryz.ntmps58
  go_wp2
  go_ret
  exact ⟨rfl, by go_grown⟩
theorem of_agg (n : Int) (w : World) : Calls Tryz.prog 42 #[.int .i64 n] w fun e w' => e = .returned (.agg #[.string (nameS n), .int .u32 (majorZ n), .int .u32 (minorZ n), .string (fieldsS n), .string (kindS n)]) ∧ Below w.heap.size w w' := of_any n w
theorem fields_any (n : Int) (w : World) : Calls Tryz.prog 61 #[.int .i64 n] w fun e w' => e = .returned (.string (fieldsS n)) ∧ Below w.heap.size w w' := by
  have hfd : ∀ w : World, (Instr.field 81 (.agg #[.string (nameS n), .int .u32 (majorZ n), .int .u32 (minorZ n), .string (fieldsS n), .string (kindS n)]) 3).run Tryz.prog w = .ok (.string (fieldsS n)) w := fun _ => by kernel_rfl
  go_enter Tryz.func61, Tryz.ntmps61
  go_wp2_with (go_at_call 42; refine (of_agg _ _).mono ?_; rintro e w1 ⟨rfl, hb1⟩)
  go_ret
  exact ⟨rfl, hb1⟩
theorem kind_any (n : Int) (h : n ≠ 0) (w : World) : Calls Tryz.prog 62 #[.int .i64 n] w fun e w' => e = .returned (.string (kindS n)) ∧ Below w.heap.size w w' := by
  have h' : (n == 0) = false := beq_eq_false_iff_ne.2 h
  have hfd : ∀ w : World, (Instr.field 81 (.agg #[.string (nameS n), .int .u32 (majorZ n), .int .u32 (minorZ n), .string (fieldsS n), .string (kindS n)]) 4).run Tryz.prog w = .ok (.string (kindS n)) w := fun _ => by kernel_rfl
  go_enter Tryz.func62, Tryz.ntmps62
  go_wp2_with (go_at_call 42; refine (of_agg _ _).mono ?_; rintro e w1 ⟨rfl, hb1⟩)
  go_ret
  exact ⟨rfl, hb1⟩
theorem kind_0 (w : World) : Calls Tryz.prog 62 #[.int .i64 0] w fun e w' => e = .returned (.string ⟨#[116, 114, 97, 112]⟩) ∧ w = w' := by
  go_enter Tryz.func62, Tryz.ntmps62
  go_wp2
  go_ret
  exact ⟨rfl, rfl⟩
/-- The kind of whatever number. -/
def kindOfB (n : Int) : List UInt8 := if n = 0 then [116, 114, 97, 112] else kindB n.toNat
theorem kindOf_any (n : Int) (w : World) : Calls Tryz.prog 62 #[.int .i64 n] w fun e w' => e = .returned (.string (bsl (kindOfB n))) ∧ Below w.heap.size w w' := by
  by_cases h : n = 0
  · subst h
    exact (kind_0 w).mono fun e w' ⟨a, b⟩ => ⟨a, by subst b; exact Below.refl _ _⟩
  · unfold kindOfB
    rw [if_neg h]
    exact kind_any n h w
end Go.Proofs.YtnppegldebocmaaGreatDoor
