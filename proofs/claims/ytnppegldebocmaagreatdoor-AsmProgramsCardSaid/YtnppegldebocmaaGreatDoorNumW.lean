/- The walks of asm.number, register, within, bounds. Conditions: as each theorem states. -/
import Derived.Test.YtnppegldebocmaaGreatDoorParseR
import Derived.Test.YtnppegldebocmaaGreatDoorOpd
import Derived.Test.YtnppegldebocmaaGreatDoorBackP
import Derived.Deep.RegionHeld3
import Derived.Deep.QuietTactic
import Derived.BigQuiet
namespace Go.Proofs.YtnppegldebocmaaGreatDoor
open Go.RowKit
set_option linter.unusedVariables false
/-- The errors that reading and assembling give; ErrText and ErrBound are two. -/
structure Few (w : World) (ad : Nat → Addr) : Prop where
  c0 : w.cell? ⟨1, 0, none⟩ = some (.iface 214 (.pointer (some (ad 0))))
  c1 : w.cell? ⟨5, 0, none⟩ = some (.iface 214 (.pointer (some (ad 1))))
  c3 : w.cell? ⟨4, 0, none⟩ = some (.iface 214 (.pointer (some (ad 3))))
  c4 : w.cell? ⟨0, 0, none⟩ = some (.iface 214 (.pointer (some (ad 4))))
  c5 : w.cell? ⟨7, 0, none⟩ = some (.iface 214 (.pointer (some (ad 5))))
  c6 : w.cell? ⟨8, 0, none⟩ = some (.iface 214 (.pointer (some (ad 6))))
  c7 : w.cell? ⟨2, 0, none⟩ = some (.iface 214 (.pointer (some (ad 7))))
  c8 : w.cell? ⟨3, 0, none⟩ = some (.iface 214 (.pointer (some (ad 8))))
  c9 : w.cell? ⟨9, 0, none⟩ = some (.iface 214 (.pointer (some (ad 9))))
  rows : ∀ k : Nat, k < 2 → ∃ ca ta, w.heap[(ad k).block]? = some (.cells ca ta (0, 0))
  apart : ∀ i j : Nat, i < 2 → j < 2 → i ≠ j → ad i ≠ ad j
theorem Few.below {w w' : World} {ad : Nat → Addr} (h : Few w ad) (hb : Below w.heap.size w w') : Few w' ad where
  c0 := (hb.cell (World.block_lt_of_cell? w _ h.c0)).trans h.c0
  c1 := (hb.cell (World.block_lt_of_cell? w _ h.c1)).trans h.c1
  c3 := (hb.cell (World.block_lt_of_cell? w _ h.c3)).trans h.c3
  c4 := (hb.cell (World.block_lt_of_cell? w _ h.c4)).trans h.c4
  c5 := (hb.cell (World.block_lt_of_cell? w _ h.c5)).trans h.c5
  c6 := (hb.cell (World.block_lt_of_cell? w _ h.c6)).trans h.c6
  c7 := (hb.cell (World.block_lt_of_cell? w _ h.c7)).trans h.c7
  c8 := (hb.cell (World.block_lt_of_cell? w _ h.c8)).trans h.c8
  c9 := (hb.cell (World.block_lt_of_cell? w _ h.c9)).trans h.c9
  rows := fun k hk => by
    obtain ⟨ca, ta, e⟩ := h.rows k hk
    exact ⟨ca, ta, (hb.block _ (Array.getElem?_eq_some_iff.1 e).1).trans e⟩
  apart := h.apart
theorem Sents.few {w : World} {ad : Nat → Addr} (h : Sents w ad) : Few w ad := ⟨h.c0, h.c1, h.c3, h.c4, h.c5, h.c6, h.c7, h.c8, h.c9, fun k hk => h.rows k (by omega), fun i j hi hj => h.apart i j (by omega) (by omega)⟩
/-- What reading asks of a world: the errors, the table of powers, strconv's errors, the searches' bound. -/
structure PW (w : World) (ad : Nat → Addr) (mz : Int) : Prop where
  se : Few w ad
  pow : Pow w
  syn : ∃ t p, w.cell? ⟨13, 0, none⟩ = some (.iface t p)
  rng : ∃ t p, w.cell? ⟨14, 0, none⟩ = some (.iface t p)
  mx : w.cell? ⟨11, 0, none⟩ = some (.int .i64 mz)
theorem PW.below {w w' : World} {ad : Nat → Addr} {mz : Int} (h : PW w ad mz) (hb : Below w.heap.size w w') : PW w' ad mz where
  se := h.se.below hb
  pow := h.pow.below hb
  syn := by obtain ⟨t, p, hc⟩ := h.syn; exact ⟨t, p, (hb.cell (World.block_lt_of_cell? _ _ hc)).trans hc⟩
  rng := by obtain ⟨t, p, hc⟩ := h.rng; exact ⟨t, p, (hb.cell (World.block_lt_of_cell? _ _ hc)).trans hc⟩
  mx := (hb.cell (World.block_lt_of_cell? _ _ h.mx)).trans h.mx
abbrev errE (ad : Nat → Addr) (k : Nat) : Value := .iface 214 (.pointer (some (ad k)))
def errV (ad : Nat → Addr) (code : Nat) : Value := if code = 0 then .nilIface else errE ad (code - 1)
theorem bsl_l2 (l : List UInt8) : (bsl l).toList = l := by
  exact ByteArray.toList_mk l
theorem bsl_data (s : List UInt8) : (bsl s).data.toList = s := by simp [bsl]
theorem bsl_arr (s : List UInt8) : (⟨s.toArray⟩ : ByteArray) = bsl s := rfl
theorem atoi_any (s : List UInt8) (hl : s.length ≤ 100) (ad : Nat → Addr) (mz : Int) (w : World) (h : PW w ad mz) :
    Calls Tryz.prog 129 #[.string (bsl s)] w fun e w' => Below w.heap.size w w' ∧ ((∃ v, Lib.atoiAll s = .ok v ∧ e = .returned (.tuple #[.int .i64 v, .nilIface])) ∨ (numB s = none ∧ ∃ v t p, e = .returned (.tuple #[.int .i64 v, .iface t p]))) := by
  have hsz : (bsl s).size ≤ 100 := by rw [bsl_size]; exact hl
  match ha : Lib.atoiAll s with
  | .ok v =>
    refine (Tryz.strconv_Atoi_ok (bsl s) (by omega) v (by rw [bsl_data]; exact ha) w).mono ?_
    rintro e w' ⟨rfl, hw⟩
    refine ⟨?_, Or.inl ⟨v, rfl, rfl⟩⟩
    rcases hw with rfl | ⟨t, rfl⟩
    · exact Below.refl _ _
    · exact Lib.bytesWorld_below _ _ _
  | .syntax =>
    obtain ⟨t, p, hc⟩ := h.syn
    refine (Tryz.strconv_Atoi_syntax (bsl s) (by omega) (by rw [bsl_data]; exact ha) _ w hc (Or.inr ⟨t, p, rfl⟩)).mono ?_
    rintro e w' ⟨N, rfl, _, _, hb⟩
    exact ⟨hb, Or.inr ⟨by unfold numB; rw [ha], _, _, _, rfl⟩⟩
  | .range =>
    obtain ⟨t, p, hc⟩ := h.rng
    refine (Tryz.strconv_Atoi_range (bsl s) (by omega) (by rw [bsl_data]; exact ha) _ w hc (Or.inr ⟨t, p, rfl⟩)).mono ?_
    rintro e w' ⟨N, rfl, _, _, hb⟩
    exact ⟨hb, Or.inr ⟨by unfold numB; rw [ha], _, _, _, rfl⟩⟩
theorem trim_any (s : List UInt8) (w : World) : Calls Tryz.prog 84 #[.string (bsl s), .string ⟨#[45]⟩] w fun e w' => e = .returned (.string (bsl (Lib.trimPrefix s [45]))) ∧ w = w' := by
  refine (Tryz.strings_TrimPrefix (bsl s) ⟨#[45]⟩ w).mono ?_
  rintro e w' ⟨rfl, hw⟩
  rw [bsl_data]
  exact ⟨rfl, hw.symm⟩
set_option maxHeartbeats 1000000 in
theorem number_any (s : List UInt8) (hl : s.length ≤ 100) (ad : Nat → Addr) (mz : Int) (w : World) (h : PW w ad mz) :
    Calls Tryz.prog 102 #[.string (bsl s)] w fun e w' => Below w.heap.size w w' ∧ ((∃ v, numB s = some v ∧ e = .returned (.tuple #[.int .i64 v, .nilIface])) ∨ (numB s = none ∧ e = .returned (.tuple #[.int .i64 0, errE ad 0]))) := by
  have HP := Lib.hid h
  have hlt : (Lib.trimPrefix s [45]).length ≤ 100 := by
    unfold Lib.trimPrefix
    split
    · rw [List.length_drop]; omega
    · exact hl
  have hA := Lib.hid (atoi_any s hl ad mz w h)
  clear h
  go_enter Tryz.func102, Tryz.ntmps102
  go_wp2_with fail
  refine hA.out.mono ?_
  rintro e w1 ⟨hb1, hr⟩
  have HB1 := Lib.hid hb1
  have hP1 := HP.out.below hb1
  have c0 := hP1.se.c0
  have HP1 := Lib.hid hP1
  clear hA hb1 hP1
  rcases hr with ⟨v, hv, rfl⟩ | ⟨hn, v, t, p, rfl⟩
  · obtain ⟨v0, v1⟩ := Lib.atoiAll_bounds hv
    have HV := Lib.hid hv
    have hsz := bsl_size (Lib.trimPrefix s [45])
    clear hv
    by_cases h10 : 10 < (Lib.trimPrefix s [45]).length
    · have HN : Hid (numB s = none) := by show _ = _; unfold numB; rw [HV.out]; simp only; rw [if_pos (Or.inl h10)]
      have h10' : (10 : Int) < ((Lib.trimPrefix s [45]).length : Int) := by omega
      have HT := Lib.hid (fun W => trim_any s W)
      generalize bsl (Lib.trimPrefix s [45]) = ts at *
      generalize (Lib.trimPrefix s [45]).length = tn at *
      go_wp2_with fail
      refine (HT.out w1).mono ?_
      rintro e w2 ⟨rfl, rfl⟩
      go_wp2_with fail
      go_quiet (fail)
      go_wp2
      go_ret2
      exact ⟨below_drewN HB1.out _, Or.inr ⟨HN.out, rfl⟩⟩
    · have h10' : ¬ (10 : Int) < ((Lib.trimPrefix s [45]).length : Int) := by omega
      have HT := Lib.hid (fun W => trim_any s W)
      have HI := Lib.hid (fun W (hW : PW W ad mz) => itoa_any v v0 v1 W hW.pow)
      have HNN : Hid (Lib.itoa v = s → numB s = some v) := fun e => by unfold numB; rw [HV.out]; simp only; rw [if_neg (fun q => q.elim h10 (fun q2 => q2 e))]
      have HNO : Hid (Lib.itoa v ≠ s → numB s = none) := fun e => by unfold numB; rw [HV.out]; simp only; rw [if_pos (Or.inr e)]
      clear h10
      by_cases he : Lib.itoa v = s
      · have HR := Lib.hid (HNN.out he)
        rw [he] at HI
        clear he HNN HNO
        generalize bsl (Lib.trimPrefix s [45]) = ts at *
        generalize (Lib.trimPrefix s [45]).length = tn at *
        go_wp2_with fail
        refine (HT.out w1).mono ?_
        rintro e w2 ⟨rfl, rfl⟩
        go_wp2_with fail
        refine (HI.out w1 HP1.out).mono ?_
        rintro e w3 ⟨rfl, hb3⟩
        have HB3 := Lib.hid (HB1.out.trans (hb3.mono HB1.out.size))
        clear hb3
        go_wp2
        go_ret2
        exact ⟨HB3.out, Or.inl ⟨v, HR.out, rfl⟩⟩
      · have HR := Lib.hid (HNO.out he)
        have hne : ((bsl (Lib.itoa v)).toList == (bsl s).toList) = false := by
          rw [bsl_l2, bsl_l2]
          exact beq_eq_false_iff_ne.2 he
        clear he HNN HNO
        generalize bsl (Lib.trimPrefix s [45]) = ts at *
        generalize (Lib.trimPrefix s [45]).length = tn at *
        generalize bsl (Lib.itoa v) = iv at *
        go_wp2_with fail
        refine (HT.out w1).mono ?_
        rintro e w2 ⟨rfl, rfl⟩
        go_wp2_with fail
        refine (HI.out w1 HP1.out).mono ?_
        rintro e w3 ⟨rfl, hb3⟩
        have HB3 := Lib.hid (HB1.out.trans (hb3.mono HB1.out.size))
        have c0' := (HP1.out.below hb3).se.c0
        clear hb3
        go_wp2_with fail
        go_quiet (fail)
        go_wp2
        go_ret2
        exact ⟨below_drewN HB3.out _, Or.inr ⟨HR.out, rfl⟩⟩
  · have HN := Lib.hid hn
    clear hn
    go_wp2_with fail
    go_quiet (fail)
    go_wp2
    go_ret2
    exact ⟨below_drewN HB1.out _, Or.inr ⟨HN.out, rfl⟩⟩
theorem within_ok (n a b : Int) (h1 : a ≤ n) (h2 : n ≤ b) (w : World) : Calls Tryz.prog 104 #[.int .i64 n, .int .i64 a, .int .i64 b] w fun e w' => e = .returned (.tuple #[.int .u32 (n % 4294967296), .nilIface]) ∧ w = w' := by
  have g1 : ¬ n < a := by omega
  have g2 : ¬ b < n := by omega
  go_enter Tryz.func104, Tryz.ntmps104
  go_wp2
  go_ret2
  exact ⟨rfl, rfl⟩
theorem within_no (n a b : Int) (h : n < a ∨ b < n) (vB : Value) (w : World) (hB : w.cell? ⟨5, 0, none⟩ = some vB) : Calls Tryz.prog 104 #[.int .i64 n, .int .i64 a, .int .i64 b] w fun e w' => e = .returned (.tuple #[.int .u32 0, vB]) ∧ Below w.heap.size w w' := by
  go_enter Tryz.func104, Tryz.ntmps104
  by_cases h1 : n < a
  · clear h
    go_wp2_with fail
    go_quiet (fail)
    go_wp2
    go_ret2
    exact ⟨rfl, below_drewN (Below.refl _ _) _⟩
  · have h2 : b < n := by omega
    clear h
    go_wp2_with fail
    go_quiet (fail)
    go_wp2
    go_ret2
    exact ⟨rfl, below_drewN (Below.refl _ _) _⟩
theorem bounds_any (c : UInt8) (hc : c ∈ ([97, 117, 106, 110, 109] : List UInt8)) (z : Int) (hz : (c.toNat : Int) = z) (w : World) : Calls Tryz.prog 103 #[.int .i32 z] w fun e w' => e = .returned (.tuple #[.int .i64 (bndL c).1, .int .i64 (bndL c).2]) ∧ w = w' := by
  subst hz
  simp only [List.mem_cons, List.not_mem_nil, or_false] at hc
  rcases hc with rfl | rfl | rfl | rfl | rfl
  all_goals
    show Calls Tryz.prog 103 #[.int .i32 _] w _
    simp only [show ((97 : UInt8).toNat : Int) = 97 from rfl, show ((117 : UInt8).toNat : Int) = 117 from rfl, show ((106 : UInt8).toNat : Int) = 106 from rfl, show ((110 : UInt8).toNat : Int) = 110 from rfl, show ((109 : UInt8).toNat : Int) = 109 from rfl]
    go_enter Tryz.func103, Tryz.ntmps103
    go_wp2
    go_ret2
    exact ⟨rfl, rfl⟩
end Go.Proofs.YtnppegldebocmaaGreatDoor
