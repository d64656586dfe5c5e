/- The walks of strconv.FormatUint at base 10 and of asm.word. Conditions: as each theorem states. -/
import Derived.Test.YtnppegldebocmaaGreatDoorNumW
import Derived.Deep.Light
import Derived.Lib.AppendIntMem
import Derived.Lib.ParseIntBCases
namespace Go.Proofs.YtnppegldebocmaaGreatDoor
open Go.RowKit
set_option linter.unusedVariables false
set_option maxHeartbeats 1000000 in
theorem fmt_inner (u : Nat) (hu : u < 18446744073709551616) (w : World) (hP : Pow w) :
    Calls Tryz.prog 139 #[.int .u64 (u : Int), .int .i64 10] w fun e w' => e = .returned (.string (bsl (Lib.decDigits u))) ∧ Below w.heap.size w w' := by
  by_cases hs : u < 100
  · have hlt : (u : Int) < 100 := by omega
    go_enter Tryz.func139, Tryz.ntmps139
    go_wp2_with fail
    refine (Tryz.internal_strconv_small u hs _).mono ?_
    rintro e w' ⟨rfl, rfl⟩
    go_wp2
    go_ret
    exact ⟨rfl, Below.refl _ _⟩
  · have hu1 : 1 ≤ u := by omega
    have hlt : ¬ (u : Int) < 100 := by omega
    have hnd20 : Lib.nDigits u ≤ 20 := by have := Lib.numDigits_eq u hu1 hu; split at this <;> omega
    have hal : Tryz.prog.arrayLen 186 = 24 := by kernel_rfl
    have hsl : ∀ W, (Instr.sliceAt 186 (.pointer (some ⟨w.heap.size, 0, none⟩)) none (some (.int .i64 (Lib.nDigits u : Int))) none).run Tryz.prog W = .ok (.slice (some ⟨w.heap.size, 0, none⟩) (Lib.nDigits u) 24) W := fun W => by
      rw [run_sliceAt_array_h W 186 ⟨w.heap.size, 0, none⟩ (by simp [Program.arrayLen, Program.elem, Tryz.underlying186]) .i64 (Lib.nDigits u : Int) (by omega) (by rw [hal]; omega)]
      go_simp
    have hH0 := Lib.holds_zero0 w 186 (Lib.nDigits u) (by omega)
    have hfmt := Tryz.internal_strconv_formatBase10 w.heap.size 0 24 u (Array.replicate (Lib.nDigits u) 0) (w.alloc (.cells Lib.zeros24 186)) hH0 (by rw [Array.size_replicate]; exact Lib.lt_pow_nDigits u) hu (by rw [Array.size_replicate]; omega)
    rw [Array.size_replicate] at hfmt
    have HH0 := Lib.hid hH0
    have HFM := Lib.hid hfmt
    have HP := Lib.hid hP
    clear hH0 hal hs hfmt
    go_enter Tryz.func139, Tryz.ntmps139
    go_wp2_with fail
    refine (Tryz.internal_strconv_numDigits u hu1 hu _ (Lib.tabIs_alloc HP.out _)).mono ?_
    rintro e w' ⟨rfl, rfl⟩
    go_wp2_with fail
    refine HFM.out.mono ?_
    rintro e w' ⟨rfl, k, v', dk, rfl, hF⟩
    have hcv : (convert 108 9 (.slice (some ⟨w.heap.size, 0, none⟩) (Lib.nDigits u) 24)).run Tryz.prog ((«Sort».putRow (fun (b : UInt8) => Value.int .u8 (b.toNat : Int)) (w.alloc (.cells Lib.zeros24 186)) w.heap.size 0 dk).drewN k) = .ok (.string ⟨(Lib.decDigits u).toArray⟩) ((«Sort».putRow (fun (b : UInt8) => Value.int .u8 (b.toNat : Int)) (w.alloc (.cells Lib.zeros24 186)) w.heap.size 0 dk).drewN k) := by
      have h := run_convert_bytes_back (P := Tryz.prog) ((«Sort».putRow (fun (b : UInt8) => Value.int .u8 (b.toNat : Int)) (w.alloc (.cells Lib.zeros24 186)) w.heap.size 0 dk).drewN k) 108 9 5 ⟨w.heap.size, 0, none⟩ 24 (Lib.decDigits u) Tryz.underlying108 Tryz.underlying5 Tryz.underlying9 (fun j hj => by
        rw [Lib.row_is_numeral hF j hj, Lib.add_plain, World.cell?_drewN]
        exact «Sort».cell?_putRow (fun (b : UInt8) => Value.int .u8 (b.toNat : Int)) _ w.heap.size 0 _ dk HH0.out (by rw [hF.size, Array.size_replicate]) j (by rw [hF.size]; rw [Lib.decDigits_length] at hj; exact hj))
      rw [Lib.decDigits_length] at h
      exact h
    have HFIN := Lib.hid (Lib.fin_at w (.cells Lib.zeros24 186) dk k 0)
    clear hF
    generalize («Sort».putRow (fun (b : UInt8) => Value.int .u8 (b.toNat : Int)) (w.alloc (.cells Lib.zeros24 186)) w.heap.size 0 dk).drewN k = WX at *
    go_wp2
    go_ret
    obtain ⟨os, eo⟩ := HFIN.out
    refine ⟨rfl, ?_⟩
    rw [eo]
    exact Lib.below_grow _ _ (Nat.le_refl _) _ _
theorem fmt_uint (u : Nat) (hu : u < 18446744073709551616) (w : World) (hP : Pow w) :
    Calls Tryz.prog 109 #[.int .u64 (u : Int), .int .i64 10] w fun e w' => e = .returned (.string (bsl (Lib.decDigits u))) ∧ Below w.heap.size w w' := by
  have H := Lib.hid (fmt_inner u hu w hP)
  go_enter Tryz.func109, Tryz.ntmps109
  go_wp2_with fail
  refine H.out.mono ?_
  rintro e w' ⟨rfl, hb⟩
  go_wp2
  go_ret
  exact ⟨rfl, hb⟩
theorem bdrewN {B : Nat} {a w : World} (h : Below B a w) (n : Nat) : Below B a (w.drewN n) := h.trans ⟨rfl, rfl, rfl, Nat.le_refl _, fun _ _ => rfl⟩
/-- What asm.word takes for a number. -/
def wordB (s : List UInt8) : Option Nat := match Lib.parseUintB 32 s with
  | .ok u => if Lib.decDigits u = s then some u else none
  | _ => none
theorem wordB_ok {s : List UInt8} {u : Nat} (h : Lib.parseUintB 32 s = .ok u) : wordB s = if Lib.decDigits u = s then some u else none := by unfold wordB; rw [h]
theorem wordB_no {s : List UInt8} (h : ∀ u, Lib.parseUintB 32 s ≠ .ok u) : wordB s = none := by
  unfold wordB
  split
  · next u hu => exact absurd hu (h u)
  · rfl
theorem wordB_lt {s : List UInt8} {u : Nat} (h : wordB s = some u) : u < 4294967296 ∧ Lib.decDigits u = s := by
  unfold wordB at h
  split at h
  · next v hv =>
    split at h
    · next hd =>
      have e : v = u := Option.some.inj h
      subst e
      have := Lib.parseUintB_le hv
      exact ⟨by omega, hd⟩
    · cases h
  · cases h
theorem parse_uint (s : List UInt8) (hl : s.length ≤ 100) (ad : Nat → Addr) (mz : Int) (w : World) (h : PW w ad mz) :
    Calls Tryz.prog 108 #[.string (bsl s), .int .i64 10, .int .i64 32] w fun e w' => Below w.heap.size w w' ∧ ((∃ u : Nat, Lib.parseUintB 32 s = .ok u ∧ e = .returned (.tuple #[.int .u64 (u : Int), .nilIface])) ∨ (wordB s = none ∧ ∃ v t p, e = .returned (.tuple #[.int .u64 v, .iface t p]))) := by
  have hsz : (bsl s).size ≤ 100 := by rw [bsl_size]; exact hl
  match ha : Lib.parseUintB 32 s with
  | .ok u =>
    refine (Tryz.strconv_ParseUint_10_at32_ok (bsl s) (by omega) u (by rw [bsl_data]; exact ha) w).mono ?_
    rintro e w' ⟨rfl, hw⟩
    refine ⟨?_, Or.inl ⟨u, rfl, rfl⟩⟩
    rcases hw with rfl | rfl
    · exact Below.refl _ _
    · exact Lib.bytesWorld_below _ _ _
  | .syntax =>
    obtain ⟨t, p, hc⟩ := h.syn
    refine (Tryz.strconv_ParseUint_10_at32_syntax (bsl s) (by omega) (by rw [bsl_data]; exact ha) _ w hc (Or.inr ⟨t, p, rfl⟩)).mono ?_
    rintro e w' ⟨N, rfl, _, _, hb⟩
    exact ⟨hb, Or.inr ⟨wordB_no (fun u hu => by rw [ha] at hu; cases hu), _, _, _, rfl⟩⟩
  | .range =>
    obtain ⟨t, p, hc⟩ := h.rng
    refine (Tryz.strconv_ParseUint_10_at32_range (bsl s) (by omega) (by rw [bsl_data]; exact ha) _ w hc (Or.inr ⟨t, p, rfl⟩)).mono ?_
    rintro e w' ⟨N, rfl, _, _, hb⟩
    exact ⟨hb, Or.inr ⟨wordB_no (fun u hu => by rw [ha] at hu; cases hu), _, _, _, rfl⟩⟩
set_option maxHeartbeats 1000000 in
theorem word_asm (s : List UInt8) (hl : s.length ≤ 100) (ad : Nat → Addr) (mz : Int) (w : World) (h : PW w ad mz) :
    Calls Tryz.prog 83 #[.string (bsl s)] w fun e w' => Below w.heap.size w w' ∧ ((∃ u : Nat, wordB s = some u ∧ e = .returned (.tuple #[.int .u32 (u : Int), .nilIface])) ∨ (wordB s = none ∧ e = .returned (.tuple #[.int .u32 0, errE ad 0]))) := by
  have HP := Lib.hid h
  go_enter Tryz.func83, Tryz.ntmps83
  go_wp2_with fail
  refine (parse_uint s hl ad mz w h).mono ?_
  rintro e w1 ⟨hb1, hor⟩
  have HP1 := Lib.hid (h.below hb1)
  have HB1 := Lib.hid hb1
  clear hb1 h
  rcases hor with ⟨u, hu, rfl⟩ | ⟨hn, v, t, p, rfl⟩
  · have hu32 := Lib.parseUintB_le hu
    have HF := Lib.hid (fmt_uint u (by omega) w1 HP1.out.pow)
    have HW := Lib.hid (wordB_ok hu)
    have hu2 : (u : Int) < 4294967296 := by go_light; omega
    clear hu
    go_wp2_with fail
    refine HF.out.mono ?_
    rintro e w2 ⟨rfl, hb2⟩
    have HP2 := Lib.hid (HP1.out.below hb2)
    have HB2 := Lib.hid (HB1.out.trans (hb2.mono HB1.out.size))
    clear hb2
    by_cases hd : Lib.decDigits u = s
    · have HW2 : Hid (wordB s = some u) := by show _ = _; rw [HW.out, if_pos hd]
      rw [hd]
      clear hd
      go_wp2
      go_ret2
      exact ⟨HB2.out, Or.inl ⟨u, HW2.out, rfl⟩⟩
    · have HW2 : Hid (wordB s = none) := by show _ = _; rw [HW.out, if_neg hd]
      have hne : ((bsl (Lib.decDigits u)).toList == (bsl s).toList) = false := by rw [bsl_l2, bsl_l2]; exact beq_eq_false_iff_ne.2 hd
      clear hd
      generalize bsl (Lib.decDigits u) = ds at *
      have hc0 := HP2.out.se.c0
      go_wp2_with fail
      go_quiet (fail)
      go_wp2
      go_ret2
      exact ⟨bdrewN HB2.out _, Or.inr ⟨HW2.out, rfl⟩⟩
  · have HW2 : Hid (wordB s = none) := hn
    have hc0 := HP1.out.se.c0
    clear hn
    go_wp2_with fail
    go_quiet (fail)
    go_wp2
    go_ret2
    exact ⟨bdrewN HB1.out _, Or.inr ⟨HW2.out, rfl⟩⟩
end Go.Proofs.YtnppegldebocmaaGreatDoor
