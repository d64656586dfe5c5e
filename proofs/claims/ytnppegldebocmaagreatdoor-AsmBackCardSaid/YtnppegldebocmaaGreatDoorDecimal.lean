/- The walks of the document's Byte, below, Decimal, register, Word. Conditions: as each theorem states. -/
import Derived.Test.YtnppegldebocmaaGreatDoorTexted
import Derived.Laws.BytesArg
namespace Go.Proofs.YtnppegldebocmaaGreatDoor
open Go.RowKit
set_option linter.unusedVariables false
theorem byte_any (u : Nat) (h : u < 256) (w : World) : Calls Tryz.prog 78 #[.int .i64 (u : Int)] w fun e w' => e = .returned (.string (bsl [UInt8.ofNat u])) ∧ Below w.heap.size w w' := by
  have hu : (u : Int) < 256 := by omega
  have hR : strOfNums [(u : Int)] = bsl [UInt8.ofNat u] := by simp [strOfNums, bsl]
  have hB := (Below.refl w.heap.size w).alloc (Nat.le_refl _) (.cells #[.int .u8 (u : Int)] 5)
  have hcv := run_convert_bytes_arg (P := Tryz.prog) (w.alloc (.cells #[.int .u8 (u : Int)] 5)) 108 5 Tryz.underlying108 Tryz.underlying5 w.heap.size 0 1 1 [(u : Int)] rfl (by
    intro i hi
    obtain rfl : i = 0 := by omega
    unfold World.cell?
    rw [heap_alloc_new]
    rfl) 9 Tryz.underlying9
  rw [hR] at hcv
  generalize bsl [UInt8.ofNat u] = R at *
  have h0 : (0 : Int) ≤ (u : Int) := by omega
  clear hR h
  generalize (u : Int) = z at *
  go_enter Tryz.func78, Tryz.ntmps78
  go_wp2_with fail
  go_ret
  exact ⟨rfl, hB⟩
theorem below_one (u : Nat) (h : u < 10) (w : World) : Calls Tryz.prog 47 #[.int .i64 (-(u : Int))] w fun e w' => e = .returned (.string (bsl (Lib.decDigits u))) ∧ Below w.heap.size w w' := by
  have HB := Lib.hid (byte_any (48 + u) (by omega) w)
  rw [← Lib.decDigits_one h] at HB
  have e : ((48 + u : Nat) : Int) = 48 - (-(u : Int)) := by omega
  rw [e] at HB
  have h1 : (-10 : Int) < -(u : Int) := by omega
  have h2 : -(u : Int) ≤ 0 := by omega
  generalize bsl (Lib.decDigits u) = R at *
  clear e h
  generalize -(u : Int) = z at *
  go_enter Tryz.func47, Tryz.ntmps47
  go_wp2_with fail
  refine HB.out.mono ?_
  rintro e w1 ⟨rfl, hb1⟩
  go_wp2
  go_ret
  exact ⟨rfl, hb1⟩
theorem bsl_app2 (a b : List UInt8) : bsl a ++ bsl b = bsl (a ++ b) := bsl_app a b
set_option maxHeartbeats 1000000 in
theorem below_any (u : Nat) (h : u < 100000000000) (w : World) : Calls Tryz.prog 47 #[.int .i64 (-(u : Int))] w fun e w' => e = .returned (.string (bsl (Lib.decDigits u))) ∧ Below w.heap.size w w' := by
  induction u using Nat.strongRecOn generalizing w with
  | _ u ih =>
    by_cases h10 : u < 10
    · exact below_one u h10 w
    · have HI := Lib.hid (fun W => ih (u / 10) (by omega) (by omega) W)
      have HB := Lib.hid (fun W => byte_any (48 + u % 10) (by omega) W)
      have hR : bsl (Lib.decDigits (u / 10)) ++ bsl [UInt8.ofNat (48 + u % 10)] = bsl (Lib.decDigits u) := by
        rw [bsl_app2]
        conv => rhs; rw [Lib.decDigits, dif_neg h10]
      have HR := Lib.hid hR
      have e : ((48 + u % 10 : Nat) : Int) = 48 + ((u % 10 : Nat) : Int) := by omega
      rw [e] at HB
      have hq : (-(u : Int)).tdiv 10 = -((u / 10 : Nat) : Int) := by rw [Int.neg_tdiv, Int.ofNat_tdiv]; rfl
      have hr : (-(u : Int)).tmod 10 = -((u % 10 : Nat) : Int) := by rw [Int.neg_tmod, Int.ofNat_tmod]; rfl
      have h1 : ¬ (-10 : Int) < -(u : Int) := by omega
      have h2 : -(u : Int) ≤ 0 := by omega
      have h3 : (-100000000000 : Int) < -(u : Int) := by omega
      have b1 : (0 : Int) ≤ ((u % 10 : Nat) : Int) ∧ ((u % 10 : Nat) : Int) < 10 := by omega
      have b2 : (0 : Int) ≤ ((u / 10 : Nat) : Int) ∧ ((u / 10 : Nat) : Int) ≤ 100000000000 := by omega
      have hsz : (bsl (Lib.decDigits (u / 10))).size ≤ 100 := by
        rw [bsl_size]
        have := itoa_size (u / 10 : Nat) (by omega) (by omega)
        rw [bsl_size] at this
        unfold Lib.itoa at this
        rw [if_neg (by omega), Int.toNat_natCast] at this
        omega
      have hsB : (bsl [UInt8.ofNat (48 + u % 10)]).size = 1 := by rw [bsl_size]; rfl
      clear ih hR e h
      generalize bsl (Lib.decDigits u) = R at *
      generalize bsl (Lib.decDigits (u / 10)) = A at *
      generalize bsl [UInt8.ofNat (48 + u % 10)] = B at *
      clear h10
      generalize ((u % 10 : Nat) : Int) = r at *
      generalize ((u / 10 : Nat) : Int) = q at *
      generalize -(u : Int) = z at *
      obtain ⟨b11, b12⟩ := b1
      obtain ⟨b21, b22⟩ := b2
      go_enter Tryz.func47, Tryz.ntmps47
      go_wp2_with fail
      refine (HI.out w).mono ?_
      rintro e w1 ⟨rfl, hb1⟩
      go_wp2_with fail
      refine (HB.out w1).mono ?_
      rintro e w2 ⟨rfl, hb2⟩
      have HB2 := Lib.hid (hb1.trans (hb2.mono hb1.size))
      clear hb1 hb2
      go_wp2
      go_ret
      exact ⟨congrArg (fun z => Ending.returned (.string z)) HR.out, HB2.out⟩
theorem decimal_any (n : Int) (h0 : -100000000000 < n) (h1 : n < 100000000000) (w : World) : Calls Tryz.prog 15 #[.int .i64 n] w fun e w' => e = .returned (.string (bsl (Lib.itoa n))) ∧ Below w.heap.size w w' := by
  by_cases hn : n < 0
  · have HB := Lib.hid (below_any n.natAbs (by omega) w)
    have e : -((n.natAbs : Nat) : Int) = n := by omega
    rw [e] at HB
    have hR : (⟨#[45]⟩ : ByteArray) ++ bsl (Lib.decDigits n.natAbs) = bsl (Lib.itoa n) := by
      unfold Lib.itoa
      rw [if_pos hn]
      exact bsl_app2 [45] _
    have HR := Lib.hid hR
    have hsz : (bsl (Lib.decDigits n.natAbs)).size ≤ 100 := by
      have := itoa_size n (by omega) (by omega)
      unfold Lib.itoa at this
      rw [if_pos hn] at this
      rw [bsl_size] at this ⊢
      simp at this
      omega
    clear e hR
    generalize bsl (Lib.itoa n) = R at *
    generalize bsl (Lib.decDigits n.natAbs) = A at *
    go_enter Tryz.func15, Tryz.ntmps15
    go_wp2_with fail
    refine HB.out.mono ?_
    rintro e w1 ⟨rfl, hb1⟩
    go_wp2
    go_ret
    exact ⟨congrArg (fun z => Ending.returned (.string z)) HR.out, hb1⟩
  · have HB := Lib.hid (below_any n.toNat (by omega) w)
    have e : -((n.toNat : Nat) : Int) = -n := by omega
    have e2 : Lib.decDigits n.toNat = Lib.itoa n := by unfold Lib.itoa; rw [if_neg hn]
    rw [e, e2] at HB
    clear e e2
    generalize bsl (Lib.itoa n) = R at *
    go_enter Tryz.func15, Tryz.ntmps15
    go_wp2_with fail
    refine HB.out.mono ?_
    rintro e w1 ⟨rfl, hb1⟩
    go_wp2
    go_ret
    exact ⟨rfl, hb1⟩
theorem reg_text (n : Int) (h0 : -100000000000 < n) (h1 : n < 100000000000) (w : World) : Calls Tryz.prog 37 #[.int .i64 n] w fun e w' => e = .returned (.string (bsl (36 :: Lib.itoa n))) ∧ Below w.heap.size w w' := by
  have HB := Lib.hid (decimal_any n h0 h1 w)
  have hR : (⟨#[36]⟩ : ByteArray) ++ bsl (Lib.itoa n) = bsl (36 :: Lib.itoa n) := bsl_app2 [36] _
  have HR := Lib.hid hR
  have hsz := itoa_size n (by omega) (by omega)
  clear hR
  generalize bsl (36 :: Lib.itoa n) = R at *
  generalize bsl (Lib.itoa n) = A at *
  go_enter Tryz.func37, Tryz.ntmps37
  go_wp2_with fail
  refine HB.out.mono ?_
  rintro e w1 ⟨rfl, hb1⟩
  go_wp2
  go_ret
  exact ⟨congrArg (fun z => Ending.returned (.string z)) HR.out, hb1⟩
end Go.Proofs.YtnppegldebocmaaGreatDoor
