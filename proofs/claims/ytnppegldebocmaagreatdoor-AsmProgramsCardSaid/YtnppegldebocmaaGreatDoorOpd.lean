/- The walks of asm.signed and asm.operand: an operand's text. Conditions: the numbers fit their kinds; the table of powers reads as it was laid. -/
import Derived.Test.YtnppegldebocmaaGreatDoorApartP
import Derived.Test.YtnppegldebocmaaGreatDoorOrder
import Derived.Test.YtnppegldebocmaaGreatDoorShelf
import Derived.Lib.ItoaLen
import Derived.Lib.SmallJoins
import Derived.Lib.AppendIntMem
import Derived.Deep.RegionHeld3
namespace Go.Proofs.YtnppegldebocmaaGreatDoor
open Go.RowKit
set_option linter.unusedVariables false
theorem bsl_app (a b : List UInt8) : bsl a ++ bsl b = bsl (a ++ b) := by
  apply ByteArray.ext
  rw [ByteArray.data_append]
  simp [bsl]
/-- The table of powers of ten reads as it was laid. -/
def Pow (w : World) : Prop := Lib.TabIs Tryz.prog w "internal/strconv.uint64pow10" .u64 Lib.pow10Tab
theorem Pow.below {w w' : World} (h : Pow w) (hb : Below w.heap.size w w') : Pow w' :=
  Joins.tab_stays (g := 12) (by kernel_rfl) h hb (Nat.le_refl _)
theorem itoa_any (n : Int) (h0 : -9223372036854775808 ≤ n) (h1 : n ≤ 9223372036854775807) (w : World) (hP : Pow w) :
    Calls Tryz.prog 63 #[.int .i64 n] w fun e w' => e = .returned (.string (bsl (Lib.itoa n))) ∧ Below w.heap.size w w' := by
  refine (Tryz.strconv_Itoa n h0 h1 w hP).mono ?_
  rintro e w' ⟨rfl, k, os, rfl⟩
  exact ⟨rfl, Lib.below_grow _ _ (Nat.le_refl _) _ _⟩
theorem itoa_size (n : Int) (h0 : -9223372036854775808 ≤ n) (h1 : n ≤ 9223372036854775807) : (bsl (Lib.itoa n)).size ≤ 21 := by
  rw [bsl_size]
  exact Lib.itoa_length_le n h0 h1
theorem i16_small (m : Int) (h0 : 0 ≤ m) (h1 : m < 65536) : wrap64 (IntKind.i16.wrap m) = immS m := by
  unfold IntKind.wrap immS wrap64
  simp [IntKind.signed, IntKind.bits]
  split <;> split <;> omega
theorem signed_any (m : Int) (h0 : 0 ≤ m) (h1 : m < 65536) (w : World) :
    Calls Tryz.prog 64 #[.int .u32 m] w fun e w' => e = .returned (.int .i64 (immS m)) ∧ w = w' := by
  have hw := i16_small m h0 h1
  go_enter Tryz.func64, Tryz.ntmps64
  go_wp2
  rw [hw]
  go_ret
  exact ⟨rfl, rfl⟩
theorem immS_fits (m : Int) (h0 : 0 ≤ m) (h1 : m < 65536) : -9223372036854775808 ≤ immS m ∧ immS m ≤ 9223372036854775807 := by unfold immS; split <;> omega
theorem opd_reg (i : InsN) (hi : i.Fits) (w : World) (hP : Pow w) (c : Int) (n : Int) (hc : (c = 83 ∧ n = i.s) ∨ (c = 84 ∧ n = i.t) ∨ (c = 68 ∧ n = i.d)) :
    Calls Tryz.prog 27 #[insV i, .int .i32 c] w fun e w' => e = .returned (.string (⟨#[36]⟩ ++ bsl (Lib.itoa n))) ∧ Below w.heap.size w w' := by
  obtain ⟨o0, o1, s0, s1, t0, t1, d0, d1, m0, m1⟩ := hi
  have hB : Below w.heap.size w (w.alloc (.cells #[.int .i64 i.op, .int .i64 i.s, .int .i64 i.t, .int .i64 i.d, .int .u32 i.imm] 24)) := (Below.refl _ _).alloc (Nat.le_refl _) _
  have HB := Lib.hid hB
  have HP := Lib.hid (hP.below hB)
  clear hB hP
  have zs := itoa_size i.s s0 s1
  have zt := itoa_size i.t t0 t1
  have zd := itoa_size i.d d0 d1
  rcases hc with ⟨rfl, rfl⟩ | ⟨rfl, rfl⟩ | ⟨rfl, rfl⟩
  · go_enter Tryz.func27, Tryz.ntmps27
    go_wp2_with (go_at_call 63; (with_reducible refine (itoa_any _ s0 s1 _ HP.out).mono ?_); rintro e w1 ⟨rfl, hb1⟩)
    go_ret
    exact ⟨rfl, HB.out.trans (hb1.mono HB.out.size)⟩
  · go_enter Tryz.func27, Tryz.ntmps27
    go_wp2_with (go_at_call 63; (with_reducible refine (itoa_any _ t0 t1 _ HP.out).mono ?_); rintro e w1 ⟨rfl, hb1⟩)
    go_ret
    exact ⟨rfl, HB.out.trans (hb1.mono HB.out.size)⟩
  · go_enter Tryz.func27, Tryz.ntmps27
    go_wp2_with (go_at_call 63; (with_reducible refine (itoa_any _ d0 d1 _ HP.out).mono ?_); rintro e w1 ⟨rfl, hb1⟩)
    go_ret
    exact ⟨rfl, HB.out.trans (hb1.mono HB.out.size)⟩
theorem opd_num (i : InsN) (w : World) (hP : Pow w) (m0 : 0 ≤ i.imm) (m1 : i.imm < 65536) :
    Calls Tryz.prog 27 #[insV i, .int .i32 110] w fun e w' => e = .returned (.string (bsl (Lib.itoa (immS i.imm)))) ∧ Below w.heap.size w w' := by
  have hB : Below w.heap.size w (w.alloc (.cells #[.int .i64 i.op, .int .i64 i.s, .int .i64 i.t, .int .i64 i.d, .int .u32 i.imm] 24)) := (Below.refl _ _).alloc (Nat.le_refl _) _
  have HB := Lib.hid hB
  have HP := Lib.hid (hP.below hB)
  obtain ⟨n0, n1⟩ := immS_fits i.imm m0 m1
  have HS := Lib.hid (fun W => signed_any i.imm m0 m1 W)
  clear hB hP
  go_enter Tryz.func27, Tryz.ntmps27
  go_wp2_with (first | (go_at_call 64; (with_reducible refine (HS.out _).mono ?_); rintro e w1 ⟨rfl, rfl⟩) | (go_at_call 63; (with_reducible refine (itoa_any _ n0 n1 _ HP.out).mono ?_); rintro e w1 ⟨rfl, hb1⟩))
  go_ret
  exact ⟨rfl, HB.out.trans (hb1.mono HB.out.size)⟩
theorem opd_imm (i : InsN) (w : World) (hP : Pow w) (m0 : 0 ≤ i.imm) (m1 : i.imm < 4294967296) (c : Int) (hc : c = 97 ∨ c = 117 ∨ c = 106) :
    Calls Tryz.prog 27 #[insV i, .int .i32 c] w fun e w' => e = .returned (.string (bsl (Lib.itoa i.imm))) ∧ Below w.heap.size w w' := by
  have hB : Below w.heap.size w (w.alloc (.cells #[.int .i64 i.op, .int .i64 i.s, .int .i64 i.t, .int .i64 i.d, .int .u32 i.imm] 24)) := (Below.refl _ _).alloc (Nat.le_refl _) _
  have HB := Lib.hid hB
  have HP := Lib.hid (hP.below hB)
  have n0 : -9223372036854775808 ≤ i.imm := by omega
  have n1 : i.imm ≤ 9223372036854775807 := by omega
  clear hB hP
  rcases hc with rfl | rfl | rfl
  all_goals
    go_enter Tryz.func27, Tryz.ntmps27
    go_wp2_with (go_at_call 63; (with_reducible refine (itoa_any _ n0 n1 _ HP.out).mono ?_); rintro e w1 ⟨rfl, hb1⟩)
    go_ret
    exact ⟨rfl, HB.out.trans (hb1.mono HB.out.size)⟩
theorem Pow.drew {w : World} (h : Pow w) : Pow w.drew := h.below (Below.refl _ _).drew
set_option maxHeartbeats 1000000 in
set_option maxRecDepth 20000 in
theorem opd_mem (i : InsN) (w : World) (hP : Pow w) (m0 : 0 ≤ i.imm) (m1 : i.imm < 65536) (s0 : -9223372036854775808 ≤ i.s) (s1 : i.s ≤ 9223372036854775807) :
    Calls Tryz.prog 27 #[insV i, .int .i32 109] w fun e w' => e = .returned (.string (bsl (Lib.itoa (immS i.imm)) ++ ⟨#[40, 36]⟩ ++ bsl (Lib.itoa i.s) ++ ⟨#[41]⟩)) ∧ Below w.heap.size w w' := by
  obtain ⟨n0, n1⟩ := immS_fits i.imm m0 m1
  have HS := Lib.hid (fun W => signed_any i.imm m0 m1 W)
  have zs := itoa_size i.s s0 s1
  have zm := itoa_size (immS i.imm) n0 n1
  have a1 : ∀ w, (Op.stringOp .add (bsl (Lib.itoa (immS i.imm))) ⟨#[40, 36]⟩).run Tryz.prog w = .ok (.string (bsl (Lib.itoa (immS i.imm)) ++ ⟨#[40, 36]⟩)) w := fun _ => run_string_add_sum _ _ _ (by have : (⟨#[40, 36]⟩ : ByteArray).size = 2 := rfl; omega)
  have a2 : ∀ w, (Op.stringOp .add (bsl (Lib.itoa (immS i.imm)) ++ ⟨#[40, 36]⟩) (bsl (Lib.itoa i.s))).run Tryz.prog w = .ok (.string (bsl (Lib.itoa (immS i.imm)) ++ ⟨#[40, 36]⟩ ++ bsl (Lib.itoa i.s))) w := fun _ => run_string_add_sum _ _ _ (by have : (⟨#[40, 36]⟩ : ByteArray).size = 2 := rfl; rw [ByteArray.size_append]; omega)
  have a3 : ∀ w, (Op.stringOp .add (bsl (Lib.itoa (immS i.imm)) ++ ⟨#[40, 36]⟩ ++ bsl (Lib.itoa i.s)) ⟨#[41]⟩).run Tryz.prog w = .ok (.string (bsl (Lib.itoa (immS i.imm)) ++ ⟨#[40, 36]⟩ ++ bsl (Lib.itoa i.s) ++ ⟨#[41]⟩)) w := fun _ => run_string_add_sum _ _ _ (by have : (⟨#[40, 36]⟩ : ByteArray).size = 2 := rfl; have : (⟨#[41]⟩ : ByteArray).size = 1 := rfl; rw [ByteArray.size_append, ByteArray.size_append]; omega)
  have HA := Lib.hid (fun W (hW : Pow W) => itoa_any i.s s0 s1 W hW)
  have HM := Lib.hid (fun W (hW : Pow W) => itoa_any (immS i.imm) n0 n1 W hW)
  go_enter Tryz.func27, Tryz.ntmps27
  go_wp2_with fail
  have hF := Five.new w (.int .i64 i.op) (.int .i64 i.s) (.int .i64 i.t) (.int .i64 i.d) (.int .u32 i.imm) 24
  have HB := Lib.hid ((Below.refl w.heap.size w).alloc (Nat.le_refl _) (.cells #[.int .i64 i.op, .int .i64 i.s, .int .i64 i.t, .int .i64 i.d, .int .u32 i.imm] 24))
  have hP0 := hP.below HB.out
  generalize w.alloc (.cells #[.int .i64 i.op, .int .i64 i.s, .int .i64 i.t, .int .i64 i.d, .int .u32 i.imm] 24) = wa at *
  have hlz := hF.lt
  obtain ⟨p0, p1, p2', p3, p4⟩ := hF.cells
  clear hF p0 p2' p3
  go_region_held3 (fun w' => (w'.cell? ⟨w.heap.size, 1, none⟩ = some (.int .i64 i.s) ∧ w'.cell? ⟨w.heap.size, 4, none⟩ = some (.int .u32 i.imm) ∧ w.heap.size < w'.heap.size ∧ Pow w' ∧ Below wa.heap.size wa w'))
    ((go_split_ands; refine ⟨?_, ?_, ?_, ?_, ?_⟩ <;> (first | assumption | (rw [hb9.cell (by assumption)]; assumption) | (have := hb9.size; omega) | exact Pow.below (by assumption) hb9 | exact Pow.drew (by assumption) | exact (Below.refl _ _).drew | exact Below.trans (by assumption) (hb9.mono (Below.size (by assumption))) | (simp [go_sem, *]; done))))
    (first | (go_at_call 64; refine (HS.out _).mono ?_; rintro e w' ⟨rfl, rfl⟩) | (go_at_call 63; go_split_ands; refine (HM.out _ (by assumption)).mono ?_; rintro e w' ⟨rfl, hb9⟩) | (go_at_call 63; go_split_ands; refine (HA.out _ (by assumption)).mono ?_; rintro e w' ⟨rfl, hb9⟩))
  go_split_ands
  go_wp2
  go_ret
  exact ⟨rfl, HB.out.trans (Below.mono (by assumption) HB.out.size)⟩
end Go.Proofs.YtnppegldebocmaaGreatDoor
