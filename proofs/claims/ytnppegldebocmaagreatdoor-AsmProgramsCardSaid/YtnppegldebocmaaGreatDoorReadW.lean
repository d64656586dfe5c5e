/- The walks of asm.address, asm.read. Conditions: as each theorem states. -/
import Derived.Test.YtnppegldebocmaaGreatDoorRegW
namespace Go.Proofs.YtnppegldebocmaaGreatDoor
open Go.RowKit
set_option linter.unusedVariables false
theorem cut_any (s : List UInt8) (hl : s.length ≤ 100) (c : UInt8) (ad : Nat → Addr) (mz : Int) (w : World) (h : PW w ad mz) : Calls Tryz.prog 70 #[.string (bsl s), .string ⟨#[c]⟩] w fun e w' => e = .returned (.tuple #[.string (bsl (cutC c s).1), .string (bsl (cutC c s).2.1), .bool (cutC c s).2.2]) ∧ Below w.heap.size w w' := by
  have hsz := bsl_size s
  refine (Tryz.strings_Cut (bsl s) ⟨#[c]⟩ mz w (by omega) h.mx).mono ?_
  rintro e w' ⟨rfl, n, rfl⟩
  rw [bsl_data, show (⟨#[c]⟩ : ByteArray).data.toList = [c] from rfl, cut_C]
  exact ⟨rfl, below_drewN (Below.refl _ _) n⟩
theorem cuts_any (s : List UInt8) (hl : s.length ≤ 100) (w : World) : Calls Tryz.prog 79 #[.string (bsl s), .string ⟨#[41]⟩] w fun e w' => e = .returned (.tuple #[.string (bsl (Lib.trimSuffix s [41])), .bool (Lib.hasSuffix s [41])]) ∧ w = w' := by
  have hsz := bsl_size s
  refine (Tryz.strings_CutSuffix (bsl s) ⟨#[41]⟩ w (by omega)).mono ?_
  rintro e w' ⟨rfl, hw⟩
  rw [bsl_data]
  exact ⟨rfl, hw.symm⟩
theorem cutC_len (c : UInt8) : ∀ s : List UInt8, (cutC c s).1.length ≤ s.length ∧ (cutC c s).2.1.length ≤ s.length
  | [] => by simp [cutC]
  | x :: t => by
    obtain ⟨h1, h2⟩ := cutC_len c t
    unfold cutC
    split
    · simp
    · simp only [List.length_cons]; omega
theorem eql_nil (t : TypeId) (v : Value) (w : World) : (binOp .eql 27 .nilIface (.iface t v)).run Tryz.prog w = .ok (.bool false) w := run_eql_iface_nil_left w t v Tryz.underlying27
theorem PW.other {w : World} {ad : Nat → Addr} {mz : Int} (h : PW w ad mz) (i j : Nat) (hi : i < 2) (hj : j < 2) (hij : i ≠ j) : (binOp .eql 27 (errE ad i) (errE ad j)).run Tryz.prog w = .ok (.bool false) w := by
  obtain ⟨ca, ta, h1⟩ := h.se.rows i hi
  obtain ⟨cb, tb, h2⟩ := h.se.rows j hj
  exact eql_other w (h.se.apart i j hi hj hij) h1 h2
theorem errV_1 (ad : Nat → Addr) : errV ad 1 = errE ad 0 := rfl
theorem errV_2 (ad : Nat → Addr) : errV ad 2 = errE ad 1 := rfl
theorem errV_0 (ad : Nat → Addr) : errV ad 0 = .nilIface := rfl
theorem reg_codes (s : List UInt8) : (regB s).2 = 0 ∨ (regB s).2 = 1 ∨ (regB s).2 = 2 := by
  unfold regB
  split
  · split
    · exact Or.inr (Or.inl rfl)
    · split
      · exact Or.inr (Or.inl rfl)
      · split
        · exact Or.inr (Or.inr rfl)
        · exact Or.inl rfl
  · exact Or.inr (Or.inl rfl)
theorem lay_codes (i : InsN) (c : UInt8) (s : List UInt8) {v : Int} (h : numB s = some v) : (layB i c s).2 = 0 ∨ (layB i c s).2 = 2 := by
  rw [layB_some h]
  split
  · exact Or.inr rfl
  · exact Or.inl rfl
set_option maxHeartbeats 2000000 in
set_option maxRecDepth 100000 in
theorem address_any (b : Nat) (i : InsN) (s : List UInt8) (hl : s.length ≤ 100) (ad : Nat → Addr) (mz : Int) (w : World) (h : PW w ad mz) (hI : InsAt w b i) :
    Calls Tryz.prog 73 #[.pointer (some ⟨b, 0, none⟩), .string (bsl s)] w fun e w' => e = .returned (errV ad (addrB i s).2) ∧ InsAt w' b (addrB i s).1 ∧ Oth b w w' := by
  have HP := Lib.hid h
  have hlt := hI.lt
  have HI := Lib.hid hI
  have HC := Lib.hid (cut_any s hl 40 ad mz w h)
  obtain ⟨l1, l2⟩ := cutC_len 40 s
  have HNE := Lib.hid (h.se.apart 1 0 (by decide) (by decide) (by decide))
  have hA0 : ¬ ((cutC 40 s).2.2 = true ∧ Lib.hasSuffix (cutC 40 s).2.1 [41] = true) → addrB i s = (i, 1) := fun q => by unfold addrB; rw [if_neg q]
  have hA1 : (cutC 40 s).2.2 = true → Lib.hasSuffix (cutC 40 s).2.1 [41] = true → numB (cutC 40 s).1 = none → addrB i s = (i, 1) := fun q1 q2 q3 => by unfold addrB; rw [if_pos ⟨q1, q2⟩, q3]
  have hA2 : (cutC 40 s).2.2 = true → Lib.hasSuffix (cutC 40 s).2.1 [41] = true → ∀ v, numB (cutC 40 s).1 = some v → (regB (Lib.trimSuffix (cutC 40 s).2.1 [41])).2 = 1 → addrB i s = (i, 1) := fun q1 q2 v q3 q4 => by unfold addrB; rw [if_pos ⟨q1, q2⟩, q3]; simp only; rw [if_pos q4]
  have hA3 : (cutC 40 s).2.2 = true → Lib.hasSuffix (cutC 40 s).2.1 [41] = true → ∀ v, numB (cutC 40 s).1 = some v → (regB (Lib.trimSuffix (cutC 40 s).2.1 [41])).2 ≠ 1 → (layB i 109 (cutC 40 s).1).2 = 2 → addrB i s = layB i 109 (cutC 40 s).1 := fun q1 q2 v q3 q4 q5 => by unfold addrB; rw [if_pos ⟨q1, q2⟩, q3]; simp only; rw [if_neg q4, if_pos (by rw [q5]; decide)]
  have hA4 : (cutC 40 s).2.2 = true → Lib.hasSuffix (cutC 40 s).2.1 [41] = true → ∀ v, numB (cutC 40 s).1 = some v → (regB (Lib.trimSuffix (cutC 40 s).2.1 [41])).2 ≠ 1 → (layB i 109 (cutC 40 s).1).2 = 0 → addrB i s = (⟨(layB i 109 (cutC 40 s).1).1.op, (regB (Lib.trimSuffix (cutC 40 s).2.1 [41])).1, (layB i 109 (cutC 40 s).1).1.t, (layB i 109 (cutC 40 s).1).1.d, (layB i 109 (cutC 40 s).1).1.imm⟩, (regB (Lib.trimSuffix (cutC 40 s).2.1 [41])).2) := fun q1 q2 v q3 q4 q5 => by unfold addrB; rw [if_pos ⟨q1, q2⟩, q3]; simp only; rw [if_neg q4, if_neg (by rw [q5]; decide)]
  have HA0 := Lib.hid hA0
  have HA1 := Lib.hid hA1
  have HA2 := Lib.hid hA2
  have HA3 := Lib.hid hA3
  have HA4 := Lib.hid hA4
  have l3 : (Lib.trimSuffix (cutC 40 s).2.1 [41]).length ≤ 100 := by
    unfold Lib.trimSuffix
    split
    · rw [List.length_take]; omega
    · omega
  have HS := Lib.hid (fun W => cuts_any (cutC 40 s).2.1 (by omega) W)
  have HN := Lib.hid (fun W (hW : PW W ad mz) => number_any (cutC 40 s).1 (by omega) ad mz W hW)
  have HR := Lib.hid (fun W (hW : PW W ad mz) => register_any (Lib.trimSuffix (cutC 40 s).2.1 [41]) l3 ad mz W hW)
  have HL := Lib.hid (fun W (hW : PW W ad mz) (hJ : InsAt W b i) => lay_any b i 109 (by decide) 109 rfl (cutC 40 s).1 (by omega) ad mz W hW hJ)
  have HRC := Lib.hid (reg_codes (Lib.trimSuffix (cutC 40 s).2.1 [41]))
  have HLC := Lib.hid (fun v (q : numB (cutC 40 s).1 = some v) => lay_codes i 109 (cutC 40 s).1 q)
  clear h hI hA0 hA1 hA2 hA3 hA4 l1 l2 l3
  generalize (cutC 40 s).1 = n at *
  generalize (cutC 40 s).2.2 = b1 at *
  generalize Lib.trimSuffix (cutC 40 s).2.1 [41] = r at *
  generalize Lib.hasSuffix (cutC 40 s).2.1 [41] = b2 at *
  generalize (cutC 40 s).2.1 = rest at *
  generalize addrB i s = A at *
  go_enter Tryz.func73, Tryz.ntmps73
  go_wp2_with fail
  refine HC.out.mono ?_
  rintro e w1 ⟨rfl, hb1⟩
  have HI1 := Lib.hid (HI.out.below hb1 hlt)
  have HP1 := Lib.hid (HP.out.below hb1)
  have HB1 := Lib.hid (below_b hb1 hlt)
  have hlt1 := HI1.out.lt
  have c0 := HP1.out.se.c0
  clear hb1 HC
  go_wp2_with fail
  refine (HS.out w1).mono ?_
  rintro e w2 ⟨rfl, rfl⟩
  by_cases hbb : b1 = true ∧ b2 = true
  · obtain ⟨rfl, rfl⟩ := hbb
    have HA1T := Lib.hid (HA1.out rfl rfl)
    have HA2T := Lib.hid (HA2.out rfl rfl)
    have HA3T := Lib.hid (HA3.out rfl rfl)
    have HA4T := Lib.hid (HA4.out rfl rfl)
    clear HA0 HA1 HA2 HA3 HA4
    go_wp2_with fail
    refine (HN.out w1 HP1.out).mono ?_
    rintro e w2 ⟨hb2, hr⟩
    have HI2 := Lib.hid (HI1.out.below hb2 hlt1)
    have HP2 := Lib.hid (HP1.out.below hb2)
    have HB2 := Lib.hid (HB1.out.trans (below_b hb2 hlt1))
    have hlt2 := HI2.out.lt
    clear hb2 c0
    rcases hr with ⟨v, hv, rfl⟩ | ⟨hn, rfl⟩
    · have HV := Lib.hid hv
      clear hv
      go_wp2_with fail
      refine (HR.out w2 HP2.out).mono ?_
      rintro e w3 ⟨rfl, hb3⟩
      have HI3 := Lib.hid (HI2.out.below hb3 hlt2)
      have HP3 := Lib.hid (HP2.out.below hb3)
      have HB3 := Lib.hid (HB2.out.trans (below_b hb3 hlt2))
      have hlt3 := HI3.out.lt
      have c0 := HP3.out.se.c0
      clear hb3
      generalize (regB r).1 = rk at *
      rcases HRC.out with hc | hc | hc
      · have HC0 := Lib.hid hc
        rw [hc, errV_0]
        clear hc
        have he := fun W => eql_nil 214 (.pointer (some (ad 0))) W
        go_wp2_with fail
        clear he
        refine (HL.out w3 HP3.out HI3.out).mono ?_
        rintro e w4 ⟨rfl, hI4, hb4⟩
        have HI4 := Lib.hid hI4
        have HB4 := Lib.hid (HB3.out.trans hb4)
        have hlt4 := hI4.lt
        rcases HLC.out v HV.out with hl0 | hl2
        · have hAA := HA4T.out v HV.out (by rw [HC0.out]; decide) hl0
          rw [hl0, errV_0]
          rw [HC0.out] at hAA
          have HAA := Lib.hid hAA
          obtain ⟨x0, x1, x2, x3, x4⟩ := hI4.cells
          obtain ⟨f0, f1, f2, f3, f4⟩ := hI4.free
          clear hl0 hAA hI4 hb4
          go_wp2
          go_ret
          exact ⟨by rw [HAA.out]; rfl, by rw [HAA.out]; exact InsAt.sets HI4.out _, HB4.out.setCell (Nat.le_refl _) _⟩
        · have hAA := HA3T.out v HV.out (by rw [HC0.out]; decide) hl2
          rw [hl2, errV_2]
          have HAA := Lib.hid hAA
          have HL2 := Lib.hid hl2
          clear hl2 hAA hI4 hb4
          go_wp2
          go_ret
          exact ⟨by rw [HAA.out, HL2.out]; rfl, by rw [HAA.out]; exact HI4.out, HB4.out⟩
      · have HAA := Lib.hid (HA2T.out v HV.out hc)
        rw [hc, errV_1]
        clear hc
        have he := fun W => eql_same (ad 0) W
        go_wp2
        go_ret
        exact ⟨by rw [HAA.out]; rfl, by rw [HAA.out]; exact HI3.out, HB3.out⟩
      · have HC0 := Lib.hid hc
        rw [hc, errV_2]
        clear hc
        have he := HP3.out.other 1 0 (by decide) (by decide) (by decide)
        go_wp2_with fail
        clear he
        refine (HL.out w3 HP3.out HI3.out).mono ?_
        rintro e w4 ⟨rfl, hI4, hb4⟩
        have HI4 := Lib.hid hI4
        have HB4 := Lib.hid (HB3.out.trans hb4)
        have hlt4 := hI4.lt
        rcases HLC.out v HV.out with hl0 | hl2
        · have hAA := HA4T.out v HV.out (by rw [HC0.out]; decide) hl0
          rw [hl0, errV_0]
          rw [HC0.out] at hAA
          have HAA := Lib.hid hAA
          obtain ⟨x0, x1, x2, x3, x4⟩ := hI4.cells
          obtain ⟨f0, f1, f2, f3, f4⟩ := hI4.free
          clear hl0 hAA hI4 hb4
          go_wp2
          go_ret
          exact ⟨by rw [HAA.out]; rfl, by rw [HAA.out]; exact InsAt.sets HI4.out _, HB4.out.setCell (Nat.le_refl _) _⟩
        · have hAA := HA3T.out v HV.out (by rw [HC0.out]; decide) hl2
          rw [hl2, errV_2]
          have HAA := Lib.hid hAA
          have HL2 := Lib.hid hl2
          clear hl2 hAA hI4 hb4
          go_wp2
          go_ret
          exact ⟨by rw [HAA.out, HL2.out]; rfl, by rw [HAA.out]; exact HI4.out, HB4.out⟩
    · have HAA := Lib.hid (HA1T.out hn)
      clear hn
      go_wp2
      go_ret
      exact ⟨by rw [HAA.out]; rfl, by rw [HAA.out]; exact HI2.out, HB2.out⟩
  · have HAA := Lib.hid (HA0.out hbb)
    have hx : b1 = false ∨ (b1 = true ∧ b2 = false) := by
      cases b1
      · exact Or.inl rfl
      · cases b2
        · exact Or.inr ⟨rfl, rfl⟩
        · exact absurd ⟨rfl, rfl⟩ hbb
    clear hbb
    rcases hx with rfl | ⟨rfl, rfl⟩
    · go_wp2_with fail
      go_ret
      exact ⟨by rw [HAA.out]; rfl, by rw [HAA.out]; exact HI1.out, HB1.out⟩
    · go_wp2_with fail
      go_ret
      exact ⟨by rw [HAA.out]; rfl, by rw [HAA.out]; exact HI1.out, HB1.out⟩
set_option maxHeartbeats 2000000 in
theorem read_reg (b : Nat) (i : InsN) (c : UInt8) (z : Int) (hz : (c.toNat : Int) = z) (hc : c = 83 ∨ c = 84 ∨ c = 68) (s : List UInt8) (hl : s.length ≤ 100) (ad : Nat → Addr) (mz : Int) (w : World) (h : PW w ad mz) (hI : InsAt w b i) :
    Calls Tryz.prog 36 #[.pointer (some ⟨b, 0, none⟩), .int .i32 z, .string (bsl s)] w fun e w' => e = .returned (errV ad (readB i c s).2) ∧ InsAt w' b (readB i c s).1 ∧ Oth b w w' := by
  have HP := Lib.hid h
  have hlt := hI.lt
  have HI := Lib.hid hI
  have HR := Lib.hid (register_any s hl ad mz w h)
  have h83 : readB i 83 s = (⟨i.op, (regB s).1, i.t, i.d, i.imm⟩, (regB s).2) := rfl
  have h84 : readB i 84 s = (⟨i.op, i.s, (regB s).1, i.d, i.imm⟩, (regB s).2) := rfl
  have h68 : readB i 68 s = (⟨i.op, i.s, i.t, (regB s).1, i.imm⟩, (regB s).2) := rfl
  have H83 := Lib.hid h83
  have H84 := Lib.hid h84
  have H68 := Lib.hid h68
  clear h hI h83 h84 h68
  generalize (regB s).1 = rk at *
  generalize (regB s).2 = rc at *
  subst hz
  rcases hc with rfl | rfl | rfl
  · show Calls Tryz.prog 36 #[.pointer (some ⟨b, 0, none⟩), .int .i32 83, .string (bsl s)] w _
    rw [H83.out]
    generalize hev : errV ad rc = ev at *
    clear hev
    go_enter Tryz.func36, Tryz.ntmps36
    go_wp2_with fail
    refine HR.out.mono ?_
    rintro e w1 ⟨rfl, hb1⟩
    have HI1 := Lib.hid (HI.out.below hb1 hlt)
    have HB1 := Lib.hid (below_b hb1 hlt)
    obtain ⟨x0, x1, x2, x3, x4⟩ := HI1.out.cells
    obtain ⟨f0, f1, f2, f3, f4⟩ := HI1.out.free
    clear hb1
    go_wp2
    go_ret
    exact ⟨rfl, InsAt.sets HI1.out rk, HB1.out.setCell (Nat.le_refl _) _⟩
  · show Calls Tryz.prog 36 #[.pointer (some ⟨b, 0, none⟩), .int .i32 84, .string (bsl s)] w _
    rw [H84.out]
    generalize hev : errV ad rc = ev at *
    clear hev
    go_enter Tryz.func36, Tryz.ntmps36
    go_wp2_with fail
    refine HR.out.mono ?_
    rintro e w1 ⟨rfl, hb1⟩
    have HI1 := Lib.hid (HI.out.below hb1 hlt)
    have HB1 := Lib.hid (below_b hb1 hlt)
    obtain ⟨x0, x1, x2, x3, x4⟩ := HI1.out.cells
    obtain ⟨f0, f1, f2, f3, f4⟩ := HI1.out.free
    clear hb1
    go_wp2
    go_ret
    exact ⟨rfl, InsAt.sett HI1.out rk, HB1.out.setCell (Nat.le_refl _) _⟩
  · show Calls Tryz.prog 36 #[.pointer (some ⟨b, 0, none⟩), .int .i32 68, .string (bsl s)] w _
    rw [H68.out]
    generalize hev : errV ad rc = ev at *
    clear hev
    go_enter Tryz.func36, Tryz.ntmps36
    go_wp2_with fail
    refine HR.out.mono ?_
    rintro e w1 ⟨rfl, hb1⟩
    have HI1 := Lib.hid (HI.out.below hb1 hlt)
    have HB1 := Lib.hid (below_b hb1 hlt)
    obtain ⟨x0, x1, x2, x3, x4⟩ := HI1.out.cells
    obtain ⟨f0, f1, f2, f3, f4⟩ := HI1.out.free
    clear hb1
    go_wp2
    go_ret
    exact ⟨rfl, InsAt.setd HI1.out rk, HB1.out.setCell (Nat.le_refl _) _⟩
set_option maxHeartbeats 2000000 in
theorem read_mem (b : Nat) (i : InsN) (s : List UInt8) (hl : s.length ≤ 100) (ad : Nat → Addr) (mz : Int) (w : World) (h : PW w ad mz) (hI : InsAt w b i) :
    Calls Tryz.prog 36 #[.pointer (some ⟨b, 0, none⟩), .int .i32 109, .string (bsl s)] w fun e w' => e = .returned (errV ad (readB i 109 s).2) ∧ InsAt w' b (readB i 109 s).1 ∧ Oth b w w' := by
  have HR := Lib.hid (address_any b i s hl ad mz w h hI)
  rw [show readB i 109 s = addrB i s from rfl]
  clear h hI
  generalize errV ad (addrB i s).2 = ev at *
  generalize (addrB i s).1 = j at *
  go_enter Tryz.func36, Tryz.ntmps36
  go_wp2_with fail
  refine HR.out.mono ?_
  rintro e w1 ⟨rfl, hI1, hb1⟩
  have HI1 := Lib.hid hI1
  have HB1 := Lib.hid hb1
  clear hI1 hb1
  go_wp2
  go_ret
  exact ⟨rfl, HI1.out, HB1.out⟩
theorem readB_lay (i : InsN) (c : UInt8) (s : List UInt8) (hc : c ∈ ([97, 117, 106, 110] : List UInt8)) : readB i c s = layB i c s := by
  simp only [List.mem_cons, List.not_mem_nil, or_false] at hc
  rcases hc with rfl | rfl | rfl | rfl <;> rfl
set_option maxHeartbeats 2000000 in
theorem read_lay (b : Nat) (i : InsN) (c : UInt8) (z : Int) (hz : (c.toNat : Int) = z) (hc : c ∈ ([97, 117, 106, 110] : List UInt8)) (s : List UInt8) (hl : s.length ≤ 100) (ad : Nat → Addr) (mz : Int) (w : World) (h : PW w ad mz) (hI : InsAt w b i) :
    Calls Tryz.prog 36 #[.pointer (some ⟨b, 0, none⟩), .int .i32 z, .string (bsl s)] w fun e w' => e = .returned (errV ad (readB i c s).2) ∧ InsAt w' b (readB i c s).1 ∧ Oth b w w' := by
  have HR := Lib.hid (lay_any b i c (by simp only [List.mem_cons, List.not_mem_nil, or_false] at hc ⊢; rcases hc with e | e | e | e <;> simp [e]) z hz s hl ad mz w h hI)
  rw [readB_lay i c s hc]
  have hzc : z = 97 ∨ z = 117 ∨ z = 106 ∨ z = 110 := by
    subst hz
    simp only [List.mem_cons, List.not_mem_nil, or_false] at hc
    rcases hc with rfl | rfl | rfl | rfl <;> decide
  clear h hI hz hc
  generalize errV ad (layB i c s).2 = ev at *
  generalize (layB i c s).1 = j at *
  rcases hzc with rfl | rfl | rfl | rfl
  all_goals
    go_enter Tryz.func36, Tryz.ntmps36
    go_wp2_with fail
    refine HR.out.mono ?_
    rintro e w1 ⟨rfl, hI1, hb1⟩
    have HI1 := Lib.hid hI1
    have HB1 := Lib.hid hb1
    clear hI1 hb1
    go_wp2
    go_ret
    exact ⟨rfl, HI1.out, HB1.out⟩
/-- asm.read, at every letter of an order. -/
theorem read_any (b : Nat) (i : InsN) (c : UInt8) (hc : c ∈ ([83, 84, 68, 110, 109, 97, 117, 106] : List UInt8)) (s : List UInt8) (hl : s.length ≤ 100) (ad : Nat → Addr) (mz : Int) (w : World) (h : PW w ad mz) (hI : InsAt w b i) :
    Calls Tryz.prog 36 #[.pointer (some ⟨b, 0, none⟩), .int .i32 (c.toNat : Int), .string (bsl s)] w fun e w' => e = .returned (errV ad (readB i c s).2) ∧ InsAt w' b (readB i c s).1 ∧ Oth b w w' := by
  by_cases h1 : c = 83 ∨ c = 84 ∨ c = 68
  · exact read_reg b i c _ rfl h1 s hl ad mz w h hI
  · by_cases h2 : c = 109
    · subst h2
      exact read_mem b i s hl ad mz w h hI
    · refine read_lay b i c _ rfl ?_ s hl ad mz w h hI
      simp only [List.mem_cons, List.not_mem_nil, or_false] at hc ⊢
      rcases hc with e | e | e | e | e | e | e | e <;> simp_all
end Go.Proofs.YtnppegldebocmaaGreatDoor
