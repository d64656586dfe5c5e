/- The walks of asm.register, asm.lay. Conditions: as each theorem states. -/
import Derived.Test.YtnppegldebocmaaGreatDoorNumW
namespace Go.Proofs.YtnppegldebocmaaGreatDoor
open Go.RowKit
set_option linter.unusedVariables false
theorem pre_36 (s : List UInt8) : (s.head? = some 36 → Lib.hasPrefix s [36] = true ∧ Lib.trimPrefix s [36] = s.drop 1) ∧ (¬ s.head? = some 36 → Lib.hasPrefix s [36] = false ∧ Lib.trimPrefix s [36] = s) := by
  cases s with
  | nil => simp [Lib.hasPrefix, Lib.trimPrefix, List.isPrefixOf]
  | cons x t =>
    have hp : Lib.hasPrefix (x :: t) [36] = ((36 : UInt8) == x) := pre_one 36 x t
    refine ⟨fun h => ?_, fun h => ?_⟩
    · simp only [List.head?_cons, Option.some.injEq] at h
      subst h
      refine ⟨by rw [hp]; rfl, ?_⟩
      unfold Lib.trimPrefix
      rw [hp, if_pos (by rfl)]
      rfl
    · have hx : ((36 : UInt8) == x) = false := beq_eq_false_iff_ne.2 fun e => h (by rw [← e]; rfl)
      refine ⟨by rw [hp, hx], ?_⟩
      unfold Lib.trimPrefix
      rw [hp, hx]
      rfl
theorem cutp_any (s : List UInt8) (w : World) : Calls Tryz.prog 82 #[.string (bsl s), .string ⟨#[36]⟩] w fun e w' => e = .returned (.tuple #[.string (bsl (Lib.trimPrefix s [36])), .bool (Lib.hasPrefix s [36])]) ∧ w = w' := by
  refine (Tryz.strings_CutPrefix (bsl s) ⟨#[36]⟩ w).mono ?_
  rintro e w' ⟨rfl, hw⟩
  rw [bsl_data]
  exact ⟨rfl, hw.symm⟩
set_option maxHeartbeats 1000000 in
theorem register_any (s : List UInt8) (hl : s.length ≤ 100) (ad : Nat → Addr) (mz : Int) (w : World) (h : PW w ad mz) :
    Calls Tryz.prog 72 #[.string (bsl s)] w fun e w' => e = .returned (.tuple #[.int .i64 (regB s).1, errV ad (regB s).2]) ∧ Below w.heap.size w w' := by
  have HP := Lib.hid h
  have HC := Lib.hid (cutp_any s w)
  obtain ⟨p1, p2⟩ := pre_36 s
  clear h
  by_cases hh : s.head? = some 36
  · obtain ⟨q1, q2⟩ := p1 hh
    rw [q1, q2] at HC
    have HN := Lib.hid (number_any (s.drop 1) (by rw [List.length_drop]; omega) ad mz w HP.out)
    have HR : Hid (∀ v, numB (s.drop 1) = some v → regB s = (if v < 0 then (0, 1) else if 31 < v then (0, 2) else (v, 0))) := fun v hv => by unfold regB; rw [if_pos hh, hv]
    have HR0 : Hid (numB (s.drop 1) = none → regB s = (0, 1)) := fun hv => by unfold regB; rw [if_pos hh, hv]
    clear p1 p2 hh q1 q2
    generalize s.drop 1 = d at *
    go_enter Tryz.func72, Tryz.ntmps72
    go_wp2_with fail
    refine HC.out.mono ?_
    rintro e w1 ⟨rfl, rfl⟩
    go_wp2_with fail
    refine HN.out.mono ?_
    rintro e w2 ⟨hb2, hr⟩
    have HB2 := Lib.hid hb2
    have c0 := (HP.out.below hb2).se.c0
    have c1 := (HP.out.below hb2).se.c1
    clear hb2
    rcases hr with ⟨v, hv, rfl⟩ | ⟨hn, rfl⟩
    · have HV := Lib.hid hv
      clear hv
      by_cases h0 : v < 0
      · have HRR : Hid (regB s = (0, 1)) := by show _ = _; rw [HR.out v HV.out, if_pos h0]
        go_wp2_with fail
        go_quiet (fail)
        go_wp2
        go_ret2
        exact ⟨by rw [HRR.out]; rfl, below_drewN HB2.out _⟩
      · by_cases h1 : 31 < v
        · have HRR : Hid (regB s = (0, 2)) := by show _ = _; rw [HR.out v HV.out, if_neg h0, if_pos h1]
          go_wp2_with fail
          go_quiet (fail)
          go_wp2
          go_ret2
          exact ⟨by rw [HRR.out]; rfl, below_drewN HB2.out _⟩
        · have HRR : Hid (regB s = (v, 0)) := by show _ = _; rw [HR.out v HV.out, if_neg h0, if_neg h1]
          go_wp2
          go_ret2
          exact ⟨by rw [HRR.out]; rfl, HB2.out⟩
    · have HRR : Hid (regB s = (0, 1)) := HR0.out hn
      clear hn
      go_wp2_with fail
      go_quiet (fail)
      go_wp2
      go_ret2
      exact ⟨by rw [HRR.out]; rfl, below_drewN HB2.out _⟩
  · obtain ⟨q1, q2⟩ := p2 hh
    rw [q1, q2] at HC
    have HN := Lib.hid (number_any s hl ad mz w HP.out)
    have HRR : Hid (regB s = (0, 1)) := by show _ = _; unfold regB; rw [if_neg hh]
    clear p1 p2 hh q1 q2
    go_enter Tryz.func72, Tryz.ntmps72
    go_wp2_with fail
    refine HC.out.mono ?_
    rintro e w1 ⟨rfl, rfl⟩
    go_wp2_with fail
    refine HN.out.mono ?_
    rintro e w2 ⟨hb2, hr⟩
    have HB2 := Lib.hid hb2
    have c0 := (HP.out.below hb2).se.c0
    clear hb2
    rcases hr with ⟨v, hv, rfl⟩ | ⟨hn, rfl⟩
    · clear hv
      go_wp2_with fail
      go_quiet (fail)
      go_wp2
      go_ret2
      exact ⟨by rw [HRR.out]; rfl, below_drewN HB2.out _⟩
    · clear hn
      go_wp2_with fail
      go_quiet (fail)
      go_wp2
      go_ret2
      exact ⟨by rw [HRR.out]; rfl, below_drewN HB2.out _⟩
/-- Block b holds an instruction. -/
abbrev InsAt (w : World) (b : Nat) (i : InsN) : Prop := Five w b 24 (.int .i64 i.op) (.int .i64 i.s) (.int .i64 i.t) (.int .i64 i.d) (.int .u32 i.imm)
theorem InsAt.imm {w : World} {b : Nat} {i : InsN} (h : InsAt w b i) (m : Int) : InsAt (w.setCell ⟨b, 4, none⟩ (.int .u32 m)) b ⟨i.op, i.s, i.t, i.d, m⟩ := Joins.block_setCell (i := 4) h _
theorem InsAt.sets {w : World} {b : Nat} {i : InsN} (h : InsAt w b i) (m : Int) : InsAt (w.setCell ⟨b, 1, none⟩ (.int .i64 m)) b ⟨i.op, m, i.t, i.d, i.imm⟩ := Joins.block_setCell (i := 1) h _
theorem InsAt.sett {w : World} {b : Nat} {i : InsN} (h : InsAt w b i) (m : Int) : InsAt (w.setCell ⟨b, 2, none⟩ (.int .i64 m)) b ⟨i.op, i.s, m, i.d, i.imm⟩ := Joins.block_setCell (i := 2) h _
theorem InsAt.setd {w : World} {b : Nat} {i : InsN} (h : InsAt w b i) (m : Int) : InsAt (w.setCell ⟨b, 3, none⟩ (.int .i64 m)) b ⟨i.op, i.s, i.t, m, i.imm⟩ := Joins.block_setCell (i := 3) h _
theorem and_imm (n : Int) : bits .and .u32 (n % 4294967296) 65535 = n % 65536 := by
  obtain ⟨m, hm⟩ := Int.eq_ofNat_of_zero_le (a := n % 4294967296) (by omega)
  have hlt : m < 4294967296 := by omega
  have hand : m &&& 65535 = m % 65536 := Nat.and_two_pow_sub_one_eq_mod m 16
  rw [hm]
  have := u32_and_nat m 65535 hlt (by decide)
  rw [show ((65535 : Nat) : Int) = 65535 from rfl] at this
  rw [this, hand]
  omega
theorem layB_some {i : InsN} {c : UInt8} {s : List UInt8} {n : Int} (h : numB s = some n) : layB i c s = (if n < (bndL c).1 ∨ (bndL c).2 < n then (⟨i.op, i.s, i.t, i.d, 0⟩, 2) else (⟨i.op, i.s, i.t, i.d, immOf c n⟩, 0)) := by
  unfold layB; rw [h]
theorem layB_none {i : InsN} {c : UInt8} {s : List UInt8} (h : numB s = none) : layB i c s = (i, 1) := by
  unfold layB; rw [h]
/-- Nothing but block b has turned of what was there. -/
structure Oth (b : Nat) (w w' : World) : Prop where
  below : Below b w w'
  oth : ∀ k, k < w.heap.size → k ≠ b → w'.heap[k]? = w.heap[k]?
theorem below_b {w w' : World} {b : Nat} (h : Below w.heap.size w w') (hb : b < w.heap.size) : Oth b w w' := ⟨h.mono (Nat.le_of_lt hb), fun k hk _ => h.block k hk⟩
theorem Oth.trans {b : Nat} {w w1 w2 : World} (h : Oth b w w1) (h2 : Oth b w1 w2) : Oth b w w2 :=
  ⟨h.below.trans h2.below, fun k hk hne => (h2.oth k (Nat.lt_of_lt_of_le hk h.below.size) hne).trans (h.oth k hk hne)⟩
theorem Oth.setCell {b off : Nat} {w w1 : World} (h : Oth b w w1) (_ : b ≤ b) (v : Value) : Oth b w (w1.setCell ⟨b, off, none⟩ v) :=
  ⟨h.below.setCell (Nat.le_refl _) v, fun k hk hne => (Below.heap_setCell _ _ _ _ hne).trans (h.oth k hk hne)⟩
set_option maxHeartbeats 2000000 in
theorem lay_any (b : Nat) (i : InsN) (c : UInt8) (hc : c ∈ ([97, 117, 106, 110, 109] : List UInt8)) (z : Int) (hz : (c.toNat : Int) = z) (s : List UInt8) (hl : s.length ≤ 100) (ad : Nat → Addr) (mz : Int) (w : World) (h : PW w ad mz) (hI : InsAt w b i) :
    Calls Tryz.prog 74 #[.pointer (some ⟨b, 0, none⟩), .int .i32 z, .string (bsl s)] w fun e w' => e = .returned (errV ad (layB i c s).2) ∧ InsAt w' b (layB i c s).1 ∧ Oth b w w' := by
  have HP := Lib.hid h
  have hlt := hI.lt
  have HI := Lib.hid hI
  have HN := Lib.hid (number_any s hl ad mz w h)
  have HBD := Lib.hid (fun W => bounds_any c hc z hz W)
  have HZ : Hid ((z == 110 || z == 109) = true ↔ c = 110 ∨ c = 109) := by
    subst hz
    simp only [List.mem_cons, List.not_mem_nil, or_false] at hc
    rcases hc with rfl | rfl | rfl | rfl | rfl <;> (show _ ↔ _; decide)
  have hzc : z = 97 ∨ z = 117 ∨ z = 106 ∨ z = 110 ∨ z = 109 := by
    subst hz
    simp only [List.mem_cons, List.not_mem_nil, or_false] at hc
    rcases hc with rfl | rfl | rfl | rfl | rfl <;> decide
  clear h hI hc hz
  go_enter Tryz.func74, Tryz.ntmps74
  go_wp2_with fail
  refine HN.out.mono ?_
  rintro e w1 ⟨hb1, hr⟩
  have HI1 := Lib.hid (HI.out.below hb1 hlt)
  have hP1 := HP.out.below hb1
  have HB1 := Lib.hid (below_b hb1 hlt)
  have hlt1 := HI1.out.lt
  have c1 := hP1.se.c1
  clear hb1 hP1
  rcases hr with ⟨v, hv, rfl⟩ | ⟨hn, rfl⟩
  · have HL := Lib.hid (layB_some (i := i) (c := c) hv)
    clear hv
    go_wp2_with fail
    refine (HBD.out w1).mono ?_
    rintro e w2 ⟨rfl, rfl⟩
    generalize (bndL c).1 = ba at *
    generalize (bndL c).2 = bb at *
    by_cases hf : v < ba ∨ bb < v
    · have HLL : Hid (layB i c s = (⟨i.op, i.s, i.t, i.d, 0⟩, 2)) := by show _ = _; rw [HL.out, if_pos hf]
      have HW := Lib.hid (within_no v ba bb hf _ w1 c1)
      clear hf
      go_wp2_with fail
      refine HW.out.mono ?_
      rintro e w3 ⟨rfl, hb3⟩
      have HI3 := Lib.hid (HI1.out.below hb3 hlt1)
      have HB3 := Lib.hid (HB1.out.trans (below_b hb3 hlt1))
      obtain ⟨x0, x1, x2, x3, x4⟩ := HI3.out.cells
      obtain ⟨f0, f1, f2, f3, f4⟩ := HI3.out.free
      clear hb3
      rcases hzc with rfl | rfl | rfl | rfl | rfl
      all_goals
        go_wp2
        go_ret
        refine ⟨by rw [HLL.out]; rfl, ?_, HB3.out.setCell (Nat.le_refl _) _⟩
        rw [HLL.out]
        exact InsAt.imm HI3.out 0
    · have hLL : layB i c s = (⟨i.op, i.s, i.t, i.d, immOf c v⟩, 0) := by rw [HL.out, if_neg hf]
      have HW := Lib.hid (within_ok v ba bb (by omega) (by omega) w1)
      clear hf
      go_wp2_with fail
      refine HW.out.mono ?_
      rintro e w3 ⟨rfl, rfl⟩
      obtain ⟨x0, x1, x2, x3, x4⟩ := HI1.out.cells
      obtain ⟨f0, f1, f2, f3, f4⟩ := HI1.out.free
      have ha := and_imm v
      have HLL := Lib.hid hLL
      clear hLL
      rcases hzc with rfl | rfl | rfl | rfl | rfl
      all_goals
        first
        | (have he : Hid (immOf c v = v % 65536) := by show _ = _; unfold immOf; rw [if_pos (HZ.out.1 (by decide))]
           go_wp2
           try rw [ha]
           go_ret
           refine ⟨by rw [HLL.out]; rfl, ?_, HB1.out.setCell (Nat.le_refl _) _⟩
           rw [HLL.out, he.out]
           exact InsAt.imm HI1.out _)
        | (have he : Hid (immOf c v = v % 4294967296) := by show _ = _; unfold immOf; rw [if_neg (fun q => absurd (HZ.out.2 q) (by decide))]
           go_wp2
           go_ret
           refine ⟨by rw [HLL.out]; rfl, ?_, HB1.out.setCell (Nat.le_refl _) _⟩
           rw [HLL.out, he.out]
           exact InsAt.imm HI1.out _)
  · have HL := Lib.hid (layB_none (i := i) (c := c) hn)
    clear hn
    go_wp2
    go_ret
    exact ⟨by rw [HL.out]; rfl, by rw [HL.out]; exact HI1.out, HB1.out⟩
end Go.Proofs.YtnppegldebocmaaGreatDoor
