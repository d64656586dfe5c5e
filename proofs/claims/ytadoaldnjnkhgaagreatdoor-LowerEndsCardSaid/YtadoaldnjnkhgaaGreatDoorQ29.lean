/- The walk of the document's load of an instruction. The walk of the document's store of an instruction. The walk of the document's do of an instruction. The walk of law3's placed. The walk of the document's OneIns, whatever its do answers. Conditions: as each theorem states. -/
import Derived.Test.YtadoaldnjnkhgaaGreatDoorQ26
import Derived.Deep.MidRow
import Derived.Deep.RegionHeld3
import Derived.Test.YtadoaldnjnkhgaaGreatDoorQ27
import Derived.Test.YtadoaldnjnkhgaaGreatDoorQ28
import Derived.Test.YtadoaldnjnkhgaaGreatDoorQ20
set_option linter.unusedVariables false
set_option linter.unusedSimpArgs false
namespace Go.Proofs.YtadoaldnjnkhgaaGreatDoor
open Go.RowKit
def LoadTo (w : World) (B sb b r bw ba bh : Nat) (tv : Value) (wt : Nat → Bool) (s : StF) (T : Nat) (x : Int × Nat × BusF) (a : Int) (e : Ending) (w' : World) : Prop :=
  if x.2.1 = 0 then e = .returned (.int .i64 (-1)) ∧ StepTo w B sb b r bw ba bh tv wt { s with r := updR s.r T x.1 } x.2.2 w' else e = .returned (.int .i64 4) ∧ StepTo w B sb b r bw ba bh tv wt { s with bad := a } x.2.2 w'
theorem LoadTo.well {w w' : World} {B sb b r bw ba bh T : Nat} {tv : Value} {wt : Nat → Bool} {s : StF} {x : Int × Nat × BusF} {a : Int} (h : x.2.1 = 0) (hs : StepTo w B sb b r bw ba bh tv wt { s with r := updR s.r T x.1 } x.2.2 w') : LoadTo w B sb b r bw ba bh tv wt s T x a (.returned (.int .i64 (-1))) w' := by
  unfold LoadTo; rw [if_pos h]; exact ⟨rfl, hs⟩
theorem LoadTo.bad {w w' : World} {B sb b r bw ba bh T : Nat} {tv : Value} {wt : Nat → Bool} {s : StF} {x : Int × Nat × BusF} {a : Int} (h : ¬ x.2.1 = 0) (hs : StepTo w B sb b r bw ba bh tv wt { s with bad := a } x.2.2 w') : LoadTo w B sb b r bw ba bh tv wt s T x a (.returned (.int .i64 4)) w' := by
  unfold LoadTo; rw [if_neg h]; exact ⟨rfl, hs⟩
set_option maxHeartbeats 4000000 in
set_option maxRecDepth 100000 in
theorem loadD_any {w : World} {B sb b r bw ba bh S T D o : Nat} {tv : Value} {wt : Nat → Bool} {s : StF} {F : BusF} {m : Int} (ho : memOp o) (h : CM w B sb b r bw ba bh tv wt s F) (htr : F.tr.length ≤ 1000000) (hR : RegsOK s.r) (hc : 0 ≤ s.count ∧ s.count ≤ 4611686018427387903) (hS : S < 32) (hT : T < 32) (m0 : 0 ≤ m) (m1 : m < 4294967296) :
    Calls Tryz.prog 104 #[.pointer (some ⟨sb, 0, none⟩), .pointer (some ⟨b, 0, none⟩), insA o S T D m] w fun e w' => LoadTo w B sb b r bw ba bh tv wt s T (ldF s F o S m) ((s.r S + wideS m) % 4294967296) e w' := by
  unfold ldF
  have HC1 := Lib.hid (fun wx => plusC_any (s.r S) (wideS m) (hR S).1 (hR S).2 (wideS_ok m).1 (wideS_ok m).2 wx)
  have HC5 := Lib.hid (fun wx => immOf_any o S T D m m0 m1 wx)
  have HCS := Lib.hid (fun wx => sizeOf_any (.inl ho) wx)
  have ha := r32_mod (s.r S + wideS m)
  have hn := sizeN_of (o := o) (.inl ho)
  have hzr : -4 ≤ sizeS o ∧ sizeS o ≤ 4 := sizeS_range (.inl ho)
  have HLD := Lib.hid (fun (W : World) (hB : BM W B b r bw ba bh tv wt F) => busLoad_all hB htr ((s.r S + wideS m) % 4294967296) ha.1 ha.2 (sizeN o) hn.2.1 (decide (sizeS o < 0)) hn.2.2 s.count hc.1 hc.2)
  generalize busL F ((s.r S + wideS m) % 4294967296) (sizeN o) (decide (sizeS o < 0)) s.count = x at HLD ⊢
  generalize hae : (s.r S + wideS m) % 4294967296 = a at HLD ⊢
  have HNN := Lib.hid hn.1
  generalize ((sizeN o : Nat) : Int) = nn at HLD HNN
  generalize sizeS o = z at HCS HLD HNN hzr
  have HAE := Lib.hid hae
  have HZR := Lib.hid hzr
  clear hae hn hzr
  have HF0 : InsB (w.alloc (.cells #[.int .i64 (o : Int), .int .i64 (S : Int), .int .i64 (T : Int), .int .i64 (D : Int), .int .u32 m] 61)) w.heap.size o S T D m := Five.new w _ _ _ _ _ _
  have hb := (Below.refl w.heap.size w).alloc (Nat.le_refl _) (.cells #[.int .i64 (o : Int), .int .i64 (S : Int), .int .i64 (T : Int), .int .i64 (D : Int), .int .u32 m] 61)
  have HB0 := Lib.hid hb
  have HCM0 := Lib.hid (h.below hb)
  have HH := Lib.hid h
  have HF := Lib.hid HF0
  have HN := Lib.hid (And.intro hS hT)
  have HSZ := Lib.hid (show w.heap.size < (w.alloc (.cells #[.int .i64 (o : Int), .int .i64 (S : Int), .int .i64 (T : Int), .int .i64 (D : Int), .int .u32 m] 61)).heap.size by simp)
  have iS : (S : Int) < 32 := by omega
  have iT : (T : Int) < 32 := by omega
  clear h hb HF0 hS hT hR m0 m1 ho ha hc htr
  go_enter Tryz.func104, Tryz.ntmps104
  go_wp2_with fail
  generalize w.alloc (.cells #[.int .i64 (o : Int), .int .i64 (S : Int), .int .i64 (T : Int), .int .i64 (D : Int), .int .u32 m] 61) = W at *
  obtain ⟨c0, c1, c2, c3, c4⟩ := Five.cells HF.out
  have hx := HCM0.out.st.reg HN.out.1
  rename_i K5 hK5
  generalize hxs : s.r S = xs at hx HC1
  have HXS := Lib.hid hxs
  clear hxs
  go_region_held3 (fun w' => (w'.cell? ⟨sb, S, none⟩ = some (.int .u32 xs) ∧ w'.cell? ⟨w.heap.size, 0, none⟩ = some (.int .i64 (o : Int)) ∧ w'.cell? ⟨w.heap.size, 1, none⟩ = some (.int .i64 (S : Int)) ∧ w'.cell? ⟨w.heap.size, 2, none⟩ = some (.int .i64 (T : Int)) ∧ w'.cell? ⟨w.heap.size, 3, none⟩ = some (.int .i64 (D : Int)) ∧ w'.cell? ⟨w.heap.size, 4, none⟩ = some (.int .u32 m) ∧ Below W.heap.size W w'))
    ((go_split_ands; refine ⟨?_, ?_, ?_, ?_, ?_, ?_, ?_⟩ <;> (first | assumption | (rw [hb9.cell (World.block_lt_of_cell? _ _ (by assumption))]; assumption) | exact (Below.refl _ _).drew | exact Below.trans (by assumption) (hb9.mono (Below.size (by assumption))) | (simp [go_sem, *]; done))))
    (first | (go_at_call 134; refine (HC5.out _).mono ?_; rintro e w' ⟨rfl, hb9⟩) | (go_at_call 63; refine (HC1.out _).mono ?_; rintro e w' ⟨rfl, rfl⟩))
  go_split_ands
  have hb6 : Below W.heap.size W w' := by assumption
  have HF6 := Lib.hid (show InsB w' w.heap.size o S T D m from (hb6.block _ HSZ.out).trans HF.out)
  have HCM6 := Lib.hid (HCM0.out.below hb6)
  have HB6 := Lib.hid (HB0.out.trans (hb6.mono HB0.out.size))
  clear hb6 c0 c1 c2 c3 c4 hx HF HCM0 HB0 HSZ
  refine hK5 _ _ ?_
  rw [HXS.out] at HAE
  rw [HAE.out]
  obtain ⟨c0, c1, c2, c3, c4⟩ := Five.cells HF6.out
  have hct : w'.cell? ⟨sb, 42, none⟩ = some (.int .i64 s.count) := HCM6.out.st.cell (show 42 < 43 by decide)
  go_wp2_with fail
  refine (HCS.out _).mono ?_
  rintro e w1 ⟨rfl, rfl⟩
  by_cases hz : z < 0
  · have hdz : decide (z < 0) = true := decide_eq_true hz
    have hnn : nn = -z := by have := HNN.out; rw [if_pos hz] at this; exact this
    subst hnn
    rw [hdz] at HLD
    have hwz : IntKind.i64.wrap (-z) = -z := IntWalk.i64_in _ ⟨by have := HZR.out; omega, by have := HZR.out; omega⟩
    clear hz
    go_wp2_with fail
    refine (HLD.out _ HCM6.out.bm).mono ?_
    rintro e w1 ⟨rfl, hbt⟩
    have hst := HCM6.out.busTo hbt
    have HST := Lib.hid hst
    obtain ⟨tv1, hcm1, hk1, -⟩ := hst
    have HF7 := Lib.hid (show InsB w1 w.heap.size o S T D m from (hk1.same _ (Five.lt HF6.out) (by
      have := HH.out.new_bs (Nat.le_refl _)
      exact this)).trans HF6.out)
    have HS7 := Lib.hid hcm1.st
    clear hbt hcm1 hk1 c0 c1 c2 c3 c4 hct
    by_cases he : x.2.1 = 0
    · have hei : ((x.2.1 : Nat) : Int) = 0 := by omega
      have HE := Lib.hid he
      obtain ⟨c0, c1, c2, c3, c4⟩ := Five.cells HF7.out
      have hz1 := HS7.out.reg HN.out.2
      have hzf := HS7.out.free T
      have HS8 := Lib.hid (StB.setReg (StB.drew HS7.out) HN.out.2 x.1)
      have HK8 := Lib.hid ((Kept.of_below (S := fun k => k = sb) (Below.refl _ w1).drew).trans (Kept.set w1.drew sb T (.int .u32 x.1)))
      rw [hei]
      clear he hei
      go_wp2_with fail
      refine wp_region_still_tail 7 (by kernel_rfl) (by kernel_rfl) ?_
      simp only [List.take_succ_cons, List.take_zero, List.drop_succ_cons, List.drop_zero]
      repeat still_step
      try refine wpStill_nil ?_
      change wpList _ _ _ _ _ w1.drew
      have hzd : w1.drew.cell? ⟨sb, T, none⟩ = some _ := hz1
      have hzfd : w1.drew.frozen? ⟨sb, T, none⟩ = false := hzf
      clear hz1 hzf c0 c1 c2 c3 c4
      generalize w1.drew = W3 at *
      go_wp2
      go_ret
      exact LoadTo.well HE.out ((HST.out.then_state (fun tv' _ => HS8.out) HK8.out).behind HB6.out HB6.out.size)
    · have hei : decide ((0 : Int) < ((x.2.1 : Nat) : Int)) = true := decide_eq_true (by omega)
      have hpos : (0 : Int) < ((x.2.1 : Nat) : Int) := by omega
      have HE := Lib.hid he
      have hz1 := HS7.out.cell (show 40 < 43 by decide)
      have hzf := HS7.out.free 40
      have HS8 := Lib.hid (StB.setBad HS7.out a)
      have HK8 := Lib.hid (Kept.set w1 sb 40 (.int .u32 a))
      simp only [stG] at hz1
      clear he
      go_wp2
      go_ret
      exact LoadTo.bad HE.out ((HST.out.then_state (fun tv' _ => HS8.out) HK8.out).behind HB6.out HB6.out.size)
  · have hdz : decide (z < 0) = false := decide_eq_false hz
    have hnn : nn = z := by have := HNN.out; rw [if_neg hz] at this; exact this
    subst hnn
    rw [hdz] at HLD
    clear hz
    go_wp2_with fail
    refine (HLD.out _ HCM6.out.bm).mono ?_
    rintro e w1 ⟨rfl, hbt⟩
    have hst := HCM6.out.busTo hbt
    have HST := Lib.hid hst
    obtain ⟨tv1, hcm1, hk1, -⟩ := hst
    have HF7 := Lib.hid (show InsB w1 w.heap.size o S T D m from (hk1.same _ (Five.lt HF6.out) (by
      have := HH.out.new_bs (Nat.le_refl _)
      exact this)).trans HF6.out)
    have HS7 := Lib.hid hcm1.st
    clear hbt hcm1 hk1 c0 c1 c2 c3 c4 hct
    by_cases he : x.2.1 = 0
    · have hei : ((x.2.1 : Nat) : Int) = 0 := by omega
      have HE := Lib.hid he
      obtain ⟨c0, c1, c2, c3, c4⟩ := Five.cells HF7.out
      have hz1 := HS7.out.reg HN.out.2
      have hzf := HS7.out.free T
      have HS8 := Lib.hid (StB.setReg (StB.drew HS7.out) HN.out.2 x.1)
      have HK8 := Lib.hid ((Kept.of_below (S := fun k => k = sb) (Below.refl _ w1).drew).trans (Kept.set w1.drew sb T (.int .u32 x.1)))
      rw [hei]
      clear he hei
      go_wp2_with fail
      refine wp_region_still_tail 7 (by kernel_rfl) (by kernel_rfl) ?_
      simp only [List.take_succ_cons, List.take_zero, List.drop_succ_cons, List.drop_zero]
      repeat still_step
      try refine wpStill_nil ?_
      change wpList _ _ _ _ _ w1.drew
      have hzd : w1.drew.cell? ⟨sb, T, none⟩ = some _ := hz1
      have hzfd : w1.drew.frozen? ⟨sb, T, none⟩ = false := hzf
      clear hz1 hzf c0 c1 c2 c3 c4
      generalize w1.drew = W3 at *
      go_wp2
      go_ret
      exact LoadTo.well HE.out ((HST.out.then_state (fun tv' _ => HS8.out) HK8.out).behind HB6.out HB6.out.size)
    · have hei : decide ((0 : Int) < ((x.2.1 : Nat) : Int)) = true := decide_eq_true (by omega)
      have hpos : (0 : Int) < ((x.2.1 : Nat) : Int) := by omega
      have HE := Lib.hid he
      have hz1 := HS7.out.cell (show 40 < 43 by decide)
      have hzf := HS7.out.free 40
      have HS8 := Lib.hid (StB.setBad HS7.out a)
      have HK8 := Lib.hid (Kept.set w1 sb 40 (.int .u32 a))
      simp only [stG] at hz1
      clear he
      go_wp2
      go_ret
      exact LoadTo.bad HE.out ((HST.out.then_state (fun tv' _ => HS8.out) HK8.out).behind HB6.out HB6.out.size)
end Go.Proofs.YtadoaldnjnkhgaaGreatDoor
namespace Go.Proofs.YtadoaldnjnkhgaaGreatDoor
open Go.RowKit
def StoTo (w : World) (B sb b r bw ba bh : Nat) (tv : Value) (wt : Nat → Bool) (s : StF) (x : Nat × BusF) (a : Int) (e : Ending) (w' : World) : Prop :=
  if x.1 = 0 then e = .returned (.int .i64 (-1)) ∧ StepTo w B sb b r bw ba bh tv wt s x.2 w' else e = .returned (.int .i64 5) ∧ StepTo w B sb b r bw ba bh tv wt { s with bad := a } x.2 w'
theorem StoTo.well {w w' : World} {B sb b r bw ba bh : Nat} {tv : Value} {wt : Nat → Bool} {s : StF} {x : Nat × BusF} {a : Int} (h : x.1 = 0) (hs : StepTo w B sb b r bw ba bh tv wt s x.2 w') : StoTo w B sb b r bw ba bh tv wt s x a (.returned (.int .i64 (-1))) w' := by
  unfold StoTo; rw [if_pos h]; exact ⟨rfl, hs⟩
theorem StoTo.bad {w w' : World} {B sb b r bw ba bh : Nat} {tv : Value} {wt : Nat → Bool} {s : StF} {x : Nat × BusF} {a : Int} (h : ¬ x.1 = 0) (hs : StepTo w B sb b r bw ba bh tv wt { s with bad := a } x.2 w') : StoTo w B sb b r bw ba bh tv wt s x a (.returned (.int .i64 5)) w' := by
  unfold StoTo; rw [if_neg h]; exact ⟨rfl, hs⟩
set_option maxHeartbeats 4000000 in
set_option maxRecDepth 100000 in
theorem storeD_any {w : World} {B sb b r bw ba bh S T D o : Nat} {tv : Value} {wt : Nat → Bool} {s : StF} {F : BusF} {m : Int} (ho : stoOp o) (h : CM w B sb b r bw ba bh tv wt s F) (htr : F.tr.length ≤ 1000000) (hou : F.out.length ≤ 1000000) (hR : RegsOK s.r) (hc : 0 ≤ s.count ∧ s.count ≤ 4611686018427387903) (hS : S < 32) (hT : T < 32) (m0 : 0 ≤ m) (m1 : m < 4294967296) :
    Calls Tryz.prog 105 #[.pointer (some ⟨sb, 0, none⟩), .pointer (some ⟨b, 0, none⟩), insA o S T D m] w fun e w' => StoTo w B sb b r bw ba bh tv wt s (stoF wt s F o S T m) ((s.r S + wideS m) % 4294967296) e w' := by
  unfold stoF
  have HC1 := Lib.hid (fun wx => plusC_any (s.r S) (wideS m) (hR S).1 (hR S).2 (wideS_ok m).1 (wideS_ok m).2 wx)
  have HC5 := Lib.hid (fun wx => immOf_any o S T D m m0 m1 wx)
  have HCS := Lib.hid (fun wx => sizeOf_any (.inr ho) wx)
  have ha := r32_mod (s.r S + wideS m)
  have hn := sizeN_of (o := o) (.inr ho)
  have hzr : -4 ≤ sizeS o ∧ sizeS o ≤ 4 := sizeS_range (.inr ho)
  have HLD := Lib.hid (fun (W : World) (hB : BM W B b r bw ba bh tv wt F) => busStore_all hB htr hou ((s.r S + wideS m) % 4294967296) ha.1 ha.2 (sizeN o) hn.2.1 (s.r T) (hR T).1 (hR T).2 s.count)
  generalize busS wt F ((s.r S + wideS m) % 4294967296) (sizeN o) (s.r T) s.count = x at HLD ⊢
  generalize hae : (s.r S + wideS m) % 4294967296 = a at HLD ⊢
  have hzp : ¬ sizeS o < 0 := by rcases ho with rfl | rfl | rfl <;> decide
  have hn1 := hn.1
  rw [if_neg hzp] at hn1
  have HNN := Lib.hid hn1
  clear hzp hn1
  generalize ((sizeN o : Nat) : Int) = nn at HLD HNN
  generalize sizeS o = z at HCS HLD HNN hzr
  have HAE := Lib.hid hae
  have HZR := Lib.hid hzr
  clear hae hn hzr
  have HF0 : InsB (w.alloc (.cells #[.int .i64 (o : Int), .int .i64 (S : Int), .int .i64 (T : Int), .int .i64 (D : Int), .int .u32 m] 61)) w.heap.size o S T D m := Five.new w _ _ _ _ _ _
  have hb := (Below.refl w.heap.size w).alloc (Nat.le_refl _) (.cells #[.int .i64 (o : Int), .int .i64 (S : Int), .int .i64 (T : Int), .int .i64 (D : Int), .int .u32 m] 61)
  have HB0 := Lib.hid hb
  have HCM0 := Lib.hid (h.below hb)
  have HH := Lib.hid h
  have HF := Lib.hid HF0
  have HN := Lib.hid (And.intro hS hT)
  have HSZ := Lib.hid (show w.heap.size < (w.alloc (.cells #[.int .i64 (o : Int), .int .i64 (S : Int), .int .i64 (T : Int), .int .i64 (D : Int), .int .u32 m] 61)).heap.size by simp)
  have iS : (S : Int) < 32 := by omega
  have iT : (T : Int) < 32 := by omega
  clear hou h hb HF0 hS hT hR m0 m1 ho ha hc htr
  go_enter Tryz.func105, Tryz.ntmps105
  go_wp2_with fail
  generalize w.alloc (.cells #[.int .i64 (o : Int), .int .i64 (S : Int), .int .i64 (T : Int), .int .i64 (D : Int), .int .u32 m] 61) = W at *
  obtain ⟨c0, c1, c2, c3, c4⟩ := Five.cells HF.out
  have hx := HCM0.out.st.reg HN.out.1
  rename_i K5 hK5
  generalize hxs : s.r S = xs at hx HC1
  have HXS := Lib.hid hxs
  clear hxs
  go_region_held3 (fun w' => (w'.cell? ⟨sb, S, none⟩ = some (.int .u32 xs) ∧ w'.cell? ⟨w.heap.size, 0, none⟩ = some (.int .i64 (o : Int)) ∧ w'.cell? ⟨w.heap.size, 1, none⟩ = some (.int .i64 (S : Int)) ∧ w'.cell? ⟨w.heap.size, 2, none⟩ = some (.int .i64 (T : Int)) ∧ w'.cell? ⟨w.heap.size, 3, none⟩ = some (.int .i64 (D : Int)) ∧ w'.cell? ⟨w.heap.size, 4, none⟩ = some (.int .u32 m) ∧ Below W.heap.size W w'))
    ((go_split_ands; refine ⟨?_, ?_, ?_, ?_, ?_, ?_, ?_⟩ <;> (first | assumption | (rw [hb9.cell (World.block_lt_of_cell? _ _ (by assumption))]; assumption) | exact (Below.refl _ _).drew | exact Below.trans (by assumption) (hb9.mono (Below.size (by assumption))) | (simp [go_sem, *]; done))))
    (first | (go_at_call 134; refine (HC5.out _).mono ?_; rintro e w' ⟨rfl, hb9⟩) | (go_at_call 63; refine (HC1.out _).mono ?_; rintro e w' ⟨rfl, rfl⟩))
  go_split_ands
  have hb6 : Below W.heap.size W w' := by assumption
  have HF6 := Lib.hid (show InsB w' w.heap.size o S T D m from (hb6.block _ HSZ.out).trans HF.out)
  have HCM6 := Lib.hid (HCM0.out.below hb6)
  have HB6 := Lib.hid (HB0.out.trans (hb6.mono HB0.out.size))
  clear hb6 c0 c1 c2 c3 c4 hx HF HCM0 HB0 HSZ
  refine hK5 _ _ ?_
  rw [HXS.out] at HAE
  rw [HAE.out]
  obtain ⟨c0, c1, c2, c3, c4⟩ := Five.cells HF6.out
  have hct : w'.cell? ⟨sb, 42, none⟩ = some (.int .i64 s.count) := HCM6.out.st.cell (show 42 < 43 by decide)
  have hy := HCM6.out.st.reg HN.out.2
  have HCQ := Lib.hid (fun wx => (HCS.out wx).mono (fun _ _ h => And.intro h.1 h.2.symm))
  rw [HNN.out] at HLD
  have HCM7 := Lib.hid (HCM6.out.below (Below.refl _ w').drew)
  have HF7 := Lib.hid (InsB.drew HF6.out)
  have HB7 := Lib.hid (HB6.out.trans ((Below.refl w'.heap.size w').drew.mono HB6.out.size))
  go_wp2_with fail
  refine wp_region_still_tail 16 (by kernel_rfl) (by kernel_rfl) ?_
  simp only [List.take_succ_cons, List.take_zero, List.drop_succ_cons, List.drop_zero]
  repeat still_step
  still_call (HCQ.out _)
  repeat still_step
  try refine wpStill_nil ?_
  change wpList _ _ _ _ _ w'.drew
  clear c0 c1 c2 c3 c4 hct hy HF6 HCM6 HB6
  generalize w'.drew = W3 at *
  go_wp2_with fail
  refine (HLD.out _ HCM7.out.bm).mono ?_
  rintro e w1 ⟨rfl, hbt⟩
  have hst := HCM7.out.busTo hbt
  have HST := Lib.hid hst
  obtain ⟨tv1, hcm1, hk1, -⟩ := hst
  have HS7 := Lib.hid hcm1.st
  clear hbt hcm1 hk1
  by_cases he : x.1 = 0
  · have hei : ((x.1 : Nat) : Int) = 0 := by omega
    have HE := Lib.hid he
    rw [hei]
    clear he hei
    go_wp2
    go_ret
    exact StoTo.well HE.out (HST.out.behind HB7.out HB7.out.size)
  · have hei : decide ((0 : Int) < ((x.1 : Nat) : Int)) = true := decide_eq_true (by omega)
    have hpos : (0 : Int) < ((x.1 : Nat) : Int) := by omega
    have HE := Lib.hid he
    have hz1 := HS7.out.cell (show 40 < 43 by decide)
    have hzf := HS7.out.free 40
    have HS8 := Lib.hid (StB.setBad HS7.out a)
    have HK8 := Lib.hid (Kept.set w1 sb 40 (.int .u32 a))
    simp only [stG] at hz1
    clear he
    go_wp2
    go_ret
    exact StoTo.bad HE.out ((HST.out.then_state (fun tv' _ => HS8.out) HK8.out).behind HB7.out HB7.out.size)
end Go.Proofs.YtadoaldnjnkhgaaGreatDoor
namespace Go.Proofs.YtadoaldnjnkhgaaGreatDoor
open Go.RowKit
abbrev DoRes := Int × Int × StF × BusF
def brF (s : StF) (F : BusF) (o S T D : Nat) (m : Int) : DoRes := (((brZ o S T D m s.r s.pc).2).getD (-1), -1, { s with r := (brZ o S T D m s.r s.pc).1 }, F)
def ldRes (s : StF) (F : BusF) (o S T : Nat) (m : Int) : DoRes := if (ldF s F o S m).2.1 = 0 then (-1, -1, { s with r := updR s.r T (ldF s F o S m).1 }, (ldF s F o S m).2.2) else (-1, 4, { s with bad := (s.r S + wideS m) % 4294967296 }, (ldF s F o S m).2.2)
def stoRes (wt : Nat → Bool) (s : StF) (F : BusF) (o S T : Nat) (m : Int) : DoRes := if (stoF wt s F o S T m).1 = 0 then (-1, -1, s, (stoF wt s F o S T m).2) else (-1, 5, { s with bad := (s.r S + wideS m) % 4294967296 }, (stoF wt s F o S T m).2)
def sumRes (s : StF) (F : BusF) (o S T D : Nat) (m : Int) : DoRes := match sumZF s o S T D m with
  | some y => (-1, -1, { s with r := y.1, hi := y.2.1, lo := y.2.2.1 }, F)
  | none => (-1, 12, s, F)
def DoTo (w : World) (B sb b r bw ba bh : Nat) (tv : Value) (wt : Nat → Bool) (x : DoRes) (e : Ending) (w' : World) : Prop := e = .returned (.tuple #[.int .i64 x.1, .int .i64 x.2.1]) ∧ StepTo w B sb b r bw ba bh tv wt x.2.2.1 x.2.2.2 w'
structure InsF (S T D : Nat) (m : Int) : Prop where
  s : S < 32
  t : T < 32
  d : D < 32
  m0 : 0 ≤ m
  m1 : m < 67108864
structure StOK (s : StF) (F : BusF) : Prop where
  r : RegsOK s.r
  pc : Reg32 s.pc
  next : Reg32 s.next
  count : 0 ≤ s.count ∧ s.count ≤ 4611686018427387903
  tr : F.tr.length ≤ 1000000
  out : F.out.length ≤ 1000000
theorem StepTo.of_state {w w' : World} {B sb b r bw ba bh : Nat} {tv : Value} {wt : Nat → Bool} {s s' : StF} {F : BusF} (h : CM w B sb b r bw ba bh tv wt s F) (hs : StB w' sb s') (hk : Kept (fun k => k = sb) w w') : StepTo w B sb b r bw ba bh tv wt s' F w' :=
  ⟨tv, h.state hs hk, hk.mono (fun k e => .inl e), .inl rfl⟩
section
variable {w : World} {B sb b r bw ba bh S T D o : Nat} {tv : Value} {wt : Nat → Bool} {s : StF} {F : BusF} {m : Int}
set_option maxHeartbeats 4000000 in
set_option maxRecDepth 100000 in
theorem doD_branch (ho : brOp o = true) (h : CM w B sb b r bw ba bh tv wt s F) (ok : StOK s F) (hi : InsF S T D m) (hsl : s.slot = false) :
    Calls Tryz.prog 65 #[.pointer (some ⟨sb, 0, none⟩), .pointer (some ⟨b, 0, none⟩), insA o S T D m] w fun e w' => DoTo w B sb b r bw ba bh tv wt (brF s F o S T D m) e w' := by
  have HK : Hid (∀ wx, Calls Tryz.prog 24 #[.int .i64 (o : Int)] wx fun e w' => e = .returned (.string ⟨#[98, 114, 97, 110, 99, 104]⟩) ∧ Below wx.heap.size wx w') := Lib.hid (fun wx => by have h0 := kindOfR (o : Int) wx; rw [kindBr ho] at h0; exact h0)
  have HF0 : InsB (w.alloc (.cells #[.int .i64 (o : Int), .int .i64 (S : Int), .int .i64 (T : Int), .int .i64 (D : Int), .int .u32 m] 61)) w.heap.size o S T D m := Five.new w _ _ _ _ _ _
  have hb := (Below.refl w.heap.size w).alloc (Nat.le_refl _) (.cells #[.int .i64 (o : Int), .int .i64 (S : Int), .int .i64 (T : Int), .int .i64 (D : Int), .int .u32 m] 61)
  have HSZ := Lib.hid (show w.heap.size < (w.alloc (.cells #[.int .i64 (o : Int), .int .i64 (S : Int), .int .i64 (T : Int), .int .i64 (D : Int), .int .u32 m] 61)).heap.size by simp)
  have HB0 := Lib.hid hb
  have HCM0 := Lib.hid (h.below hb)
  have HF := Lib.hid HF0
  have HC := Lib.hid (fun (W : World) (hC : CM W B sb b r bw ba bh tv wt s F) => brD_any ho hC.st ok.r ok.pc hsl hi.s hi.t hi.d hi.m0 hi.m1)
  clear h hb HF0
  go_enter Tryz.func65, Tryz.ntmps65
  obtain ⟨c0, c1, c2, c3, c4⟩ := Five.cells HF.out
  go_wp2_with fail
  generalize w.alloc (.cells #[.int .i64 (o : Int), .int .i64 (S : Int), .int .i64 (T : Int), .int .i64 (D : Int), .int .u32 m] 61) = W at *
  refine (HK.out _).mono ?_
  rintro e w1 ⟨rfl, hb1⟩
  have HF1 := Lib.hid (show InsB w1 w.heap.size o S T D m from (hb1.block _ HSZ.out).trans HF.out)
  have HCM1 := Lib.hid (HCM0.out.below hb1)
  have HB1 := Lib.hid (HB0.out.trans (hb1.mono HB0.out.size))
  clear hb1 c0 c1 c2 c3 c4 HF HCM0 HB0 HSZ
  obtain ⟨c0, c1, c2, c3, c4⟩ := Five.cells HF1.out
  go_wp2_with fail
  refine (HC.out _ HCM1.out).mono ?_
  intro e w2 h2
  obtain ⟨rfl, h3, h4⟩ := h2
  have HT := Lib.hid ((StepTo.of_state HCM1.out h3 h4).behind HB1.out HB1.out.size)
  clear h3 h4 HC
  go_wp2
  go_ret2
  exact ⟨rfl, HT.out⟩
set_option maxHeartbeats 4000000 in
set_option maxRecDepth 100000 in
theorem doD_load (ho : memOp o) (h : CM w B sb b r bw ba bh tv wt s F) (ok : StOK s F) (hi : InsF S T D m) :
    Calls Tryz.prog 65 #[.pointer (some ⟨sb, 0, none⟩), .pointer (some ⟨b, 0, none⟩), insA o S T D m] w fun e w' => DoTo w B sb b r bw ba bh tv wt (ldRes s F o S T m) e w' := by
  have HK : Hid (∀ wx, Calls Tryz.prog 24 #[.int .i64 (o : Int)] wx fun e w' => e = .returned (.string ⟨#[108, 111, 97, 100]⟩) ∧ Below wx.heap.size wx w') := Lib.hid (fun wx => by have h0 := kindOfR (o : Int) wx; rw [kindLd ho] at h0; exact h0)
  have HF0 : InsB (w.alloc (.cells #[.int .i64 (o : Int), .int .i64 (S : Int), .int .i64 (T : Int), .int .i64 (D : Int), .int .u32 m] 61)) w.heap.size o S T D m := Five.new w _ _ _ _ _ _
  have hb := (Below.refl w.heap.size w).alloc (Nat.le_refl _) (.cells #[.int .i64 (o : Int), .int .i64 (S : Int), .int .i64 (T : Int), .int .i64 (D : Int), .int .u32 m] 61)
  have HSZ := Lib.hid (show w.heap.size < (w.alloc (.cells #[.int .i64 (o : Int), .int .i64 (S : Int), .int .i64 (T : Int), .int .i64 (D : Int), .int .u32 m] 61)).heap.size by simp)
  have HB0 := Lib.hid hb
  have HCM0 := Lib.hid (h.below hb)
  have HF := Lib.hid HF0
  have HC := Lib.hid (fun (W : World) (hC : CM W B sb b r bw ba bh tv wt s F) => loadD_any (D := D) ho hC ok.tr ok.r ok.count hi.s hi.t hi.m0 (by have := hi.m1; omega))
  clear h hb HF0
  go_enter Tryz.func65, Tryz.ntmps65
  obtain ⟨c0, c1, c2, c3, c4⟩ := Five.cells HF.out
  go_wp2_with fail
  generalize w.alloc (.cells #[.int .i64 (o : Int), .int .i64 (S : Int), .int .i64 (T : Int), .int .i64 (D : Int), .int .u32 m] 61) = W at *
  refine (HK.out _).mono ?_
  rintro e w1 ⟨rfl, hb1⟩
  have HF1 := Lib.hid (show InsB w1 w.heap.size o S T D m from (hb1.block _ HSZ.out).trans HF.out)
  have HCM1 := Lib.hid (HCM0.out.below hb1)
  have HB1 := Lib.hid (HB0.out.trans (hb1.mono HB0.out.size))
  clear hb1 c0 c1 c2 c3 c4 HF HCM0 HB0 HSZ
  obtain ⟨c0, c1, c2, c3, c4⟩ := Five.cells HF1.out
  go_wp2_with fail
  refine (HC.out _ HCM1.out).mono ?_
  intro e w2 h2
  unfold LoadTo at h2
  clear HC
  by_cases hz : (ldF s F o S m).2.1 = 0
  · rw [if_pos hz] at h2
    obtain ⟨rfl, h3⟩ := h2
    have HT := Lib.hid (h3.behind HB1.out HB1.out.size)
    have HZ := Lib.hid hz
    clear h3 hz
    go_wp2
    go_ret2
    unfold ldRes
    rw [if_pos HZ.out]
    exact ⟨rfl, HT.out⟩
  · rw [if_neg hz] at h2
    obtain ⟨rfl, h3⟩ := h2
    have HT := Lib.hid (h3.behind HB1.out HB1.out.size)
    have HZ := Lib.hid hz
    clear h3 hz
    go_wp2
    go_ret2
    unfold ldRes
    rw [if_neg HZ.out]
    exact ⟨rfl, HT.out⟩
set_option maxHeartbeats 4000000 in
set_option maxRecDepth 100000 in
theorem doD_store (ho : stoOp o) (h : CM w B sb b r bw ba bh tv wt s F) (ok : StOK s F) (hi : InsF S T D m) :
    Calls Tryz.prog 65 #[.pointer (some ⟨sb, 0, none⟩), .pointer (some ⟨b, 0, none⟩), insA o S T D m] w fun e w' => DoTo w B sb b r bw ba bh tv wt (stoRes wt s F o S T m) e w' := by
  have HK : Hid (∀ wx, Calls Tryz.prog 24 #[.int .i64 (o : Int)] wx fun e w' => e = .returned (.string ⟨#[115, 116, 111, 114, 101]⟩) ∧ Below wx.heap.size wx w') := Lib.hid (fun wx => by have h0 := kindOfR (o : Int) wx; rw [kindSto ho] at h0; exact h0)
  have HF0 : InsB (w.alloc (.cells #[.int .i64 (o : Int), .int .i64 (S : Int), .int .i64 (T : Int), .int .i64 (D : Int), .int .u32 m] 61)) w.heap.size o S T D m := Five.new w _ _ _ _ _ _
  have hb := (Below.refl w.heap.size w).alloc (Nat.le_refl _) (.cells #[.int .i64 (o : Int), .int .i64 (S : Int), .int .i64 (T : Int), .int .i64 (D : Int), .int .u32 m] 61)
  have HSZ := Lib.hid (show w.heap.size < (w.alloc (.cells #[.int .i64 (o : Int), .int .i64 (S : Int), .int .i64 (T : Int), .int .i64 (D : Int), .int .u32 m] 61)).heap.size by simp)
  have HB0 := Lib.hid hb
  have HCM0 := Lib.hid (h.below hb)
  have HF := Lib.hid HF0
  have HC := Lib.hid (fun (W : World) (hC : CM W B sb b r bw ba bh tv wt s F) => storeD_any (D := D) ho hC ok.tr ok.out ok.r ok.count hi.s hi.t hi.m0 (by have := hi.m1; omega))
  clear h hb HF0
  go_enter Tryz.func65, Tryz.ntmps65
  obtain ⟨c0, c1, c2, c3, c4⟩ := Five.cells HF.out
  go_wp2_with fail
  generalize w.alloc (.cells #[.int .i64 (o : Int), .int .i64 (S : Int), .int .i64 (T : Int), .int .i64 (D : Int), .int .u32 m] 61) = W at *
  refine (HK.out _).mono ?_
  rintro e w1 ⟨rfl, hb1⟩
  have HF1 := Lib.hid (show InsB w1 w.heap.size o S T D m from (hb1.block _ HSZ.out).trans HF.out)
  have HCM1 := Lib.hid (HCM0.out.below hb1)
  have HB1 := Lib.hid (HB0.out.trans (hb1.mono HB0.out.size))
  clear hb1 c0 c1 c2 c3 c4 HF HCM0 HB0 HSZ
  obtain ⟨c0, c1, c2, c3, c4⟩ := Five.cells HF1.out
  go_wp2_with fail
  refine (HC.out _ HCM1.out).mono ?_
  intro e w2 h2
  unfold StoTo at h2
  clear HC
  by_cases hz : (stoF wt s F o S T m).1 = 0
  · rw [if_pos hz] at h2
    obtain ⟨rfl, h3⟩ := h2
    have HT := Lib.hid (h3.behind HB1.out HB1.out.size)
    have HZ := Lib.hid hz
    clear h3 hz
    go_wp2
    go_ret2
    unfold stoRes
    rw [if_pos HZ.out]
    exact ⟨rfl, HT.out⟩
  · rw [if_neg hz] at h2
    obtain ⟨rfl, h3⟩ := h2
    have HT := Lib.hid (h3.behind HB1.out HB1.out.size)
    have HZ := Lib.hid hz
    clear h3 hz
    go_wp2
    go_ret2
    unfold stoRes
    rw [if_neg HZ.out]
    exact ⟨rfl, HT.out⟩
set_option maxHeartbeats 4000000 in
set_option maxRecDepth 100000 in
theorem doD_sum (ho : o ∈ sumOps) (h : CM w B sb b r bw ba bh tv wt s F) (ok : StOK s F) (hi : InsF S T D m) :
    Calls Tryz.prog 65 #[.pointer (some ⟨sb, 0, none⟩), .pointer (some ⟨b, 0, none⟩), insA o S T D m] w fun e w' => DoTo w B sb b r bw ba bh tv wt (sumRes s F o S T D m) e w' := by
  have HK : Hid (∀ wx, Calls Tryz.prog 24 #[.int .i64 (o : Int)] wx fun e w' => e = .returned (.string ⟨#[115, 117, 109]⟩) ∧ Below wx.heap.size wx w') := Lib.hid (fun wx => by have h0 := kindOfR (o : Int) wx; rw [kindSum ho] at h0; exact h0)
  have HF0 : InsB (w.alloc (.cells #[.int .i64 (o : Int), .int .i64 (S : Int), .int .i64 (T : Int), .int .i64 (D : Int), .int .u32 m] 61)) w.heap.size o S T D m := Five.new w _ _ _ _ _ _
  have hb := (Below.refl w.heap.size w).alloc (Nat.le_refl _) (.cells #[.int .i64 (o : Int), .int .i64 (S : Int), .int .i64 (T : Int), .int .i64 (D : Int), .int .u32 m] 61)
  have HSZ := Lib.hid (show w.heap.size < (w.alloc (.cells #[.int .i64 (o : Int), .int .i64 (S : Int), .int .i64 (T : Int), .int .i64 (D : Int), .int .u32 m] 61)).heap.size by simp)
  have HB0 := Lib.hid hb
  have HCM0 := Lib.hid (h.below hb)
  have HF := Lib.hid HF0
  have HC := Lib.hid (fun (W : World) (hC : CM W B sb b r bw ba bh tv wt s F) => sumD_any ho hC.st ok.r hi.s hi.t hi.d hi.m0 (by have := hi.m1; omega))
  clear h hb HF0
  go_enter Tryz.func65, Tryz.ntmps65
  obtain ⟨c0, c1, c2, c3, c4⟩ := Five.cells HF.out
  go_wp2_with fail
  generalize w.alloc (.cells #[.int .i64 (o : Int), .int .i64 (S : Int), .int .i64 (T : Int), .int .i64 (D : Int), .int .u32 m] 61) = W at *
  refine (HK.out _).mono ?_
  rintro e w1 ⟨rfl, hb1⟩
  have HF1 := Lib.hid (show InsB w1 w.heap.size o S T D m from (hb1.block _ HSZ.out).trans HF.out)
  have HCM1 := Lib.hid (HCM0.out.below hb1)
  have HB1 := Lib.hid (HB0.out.trans (hb1.mono HB0.out.size))
  clear hb1 c0 c1 c2 c3 c4 HF HCM0 HB0 HSZ
  obtain ⟨c0, c1, c2, c3, c4⟩ := Five.cells HF1.out
  go_wp2_with fail
  refine (HC.out _ HCM1.out).mono ?_
  intro e w2 h2
  unfold SumPost at h2
  clear HC
  cases hz : sumZF s o S T D m with
  | some y =>
    rw [hz] at h2
    obtain ⟨rfl, h3, h4⟩ := h2
    have HT := Lib.hid ((StepTo.of_state HCM1.out h3 h4).behind HB1.out HB1.out.size)
    have HZ := Lib.hid hz
    clear h3 h4 hz
    go_wp2
    go_ret2
    unfold sumRes
    rw [HZ.out]
    exact ⟨rfl, HT.out⟩
  | none =>
    rw [hz] at h2
    obtain ⟨rfl, h3, h4⟩ := h2
    have HT := Lib.hid ((StepTo.of_state HCM1.out h3 h4).behind HB1.out HB1.out.size)
    have HZ := Lib.hid hz
    clear h3 h4 hz
    go_wp2
    go_ret2
    unfold sumRes
    rw [HZ.out]
    exact ⟨rfl, HT.out⟩
end
end Go.Proofs.YtadoaldnjnkhgaaGreatDoor
namespace Go.Proofs.YtadoaldnjnkhgaaGreatDoor
open Go.RowKit
def stL (s : StF) : List Value := (List.range 43).map (stG s)
theorem stL_len (s : StF) : (stL s).length = 43 := by simp [stL]
theorem stL_at (s : StF) {k : Nat} (hk : k < 43) : (stL s)[k]? = some (stG s k) := by simp [stL, hk]
theorem stL_lt {s : StF} {k : Nat} {v : Value} (h : (stL s)[k]? = some v) : k < 43 := by
  have := (List.getElem?_eq_some_iff.1 h).1
  rwa [stL_len] at this
theorem StB.range {w : World} {b : Nat} {s : StF} (h : StB w b s) : w.rangeAt b 0 (stL s) := fun j v hv => by
  have hj := stL_lt hv
  rw [stL_at s hj] at hv
  rw [Nat.zero_add, ← hv]
  exact h.cell hj
theorem StB.there {w : World} {b : Nat} {s : StF} (h : StB w b s) : w.there b 0 43 := fun j hj => by
  rw [Nat.zero_add]
  exact ⟨by rw [h.cell hj]; rfl, h.free j⟩
theorem Row.setCells {b n : Nat} {t : TypeId} : ∀ (l : List Value) (w : World) (g : Nat → Value) (o : Nat), Row w b t n g → o + l.length ≤ n →
    Row (w.setCells b o l) b t n (fun k => if o ≤ k ∧ k < o + l.length then l.getD (k - o) (g k) else g k)
  | [], w, g, o, h, _ => h.eqv (fun k _ => by rw [if_neg (by simp)])
  | v :: r, w, g, o, h, hl => by
    have hl' : o + 1 + r.length ≤ n := by simpa [Nat.add_assoc, Nat.add_comm 1] using hl
    have := Row.setCells r _ _ (o + 1) (h.set o v) hl'
    refine Row.eqv this (fun k hk => ?_)
    simp only [List.length_cons]
    by_cases e : k = o
    · have h1 : ¬ (o + 1 ≤ k ∧ k < o + 1 + r.length) := by omega
      have h2 : o ≤ k ∧ k < o + (r.length + 1) := ⟨by omega, by omega⟩
      rw [if_neg h1, if_pos e, if_pos h2, e, Nat.sub_self]
      rfl
    · by_cases e2 : o + 1 ≤ k ∧ k < o + 1 + r.length
      · have h2 : o ≤ k ∧ k < o + (r.length + 1) := ⟨by omega, by omega⟩
        rw [if_pos e2, if_pos h2]
        obtain ⟨j, rfl⟩ : ∃ j, k = o + 1 + j := ⟨k - (o + 1), by omega⟩
        rw [show o + 1 + j - (o + 1) = j by omega, show o + 1 + j - o = j + 1 by omega]
        have hj : j < r.length := by omega
        simp [List.getD_eq_getElem?_getD, hj]
      · have h2 : ¬ (o ≤ k ∧ k < o + (r.length + 1)) := by omega
        rw [if_neg e2, if_neg e, if_neg h2]
theorem StB.put {w : World} {b : Nat} {s : StF} (h : StB w b s) (s' : StF) : StB (w.setCells b 0 (stL s').toArray.toList) b s' :=
  (Row.setCells (stL s').toArray.toList w _ 0 h (by simp [stL_len])).eqv (fun k hk => by
    rw [if_pos ⟨Nat.zero_le _, by simp [stL_len]; omega⟩]
    simp only [Nat.sub_zero, List.getD_eq_getElem?_getD, List.toList_toArray]
    rw [stL_at s' hk]
    rfl)
theorem Kept.setCells (b : Nat) : ∀ (l : List Value) (w : World) (o : Nat), Kept (fun k => k = b) w (w.setCells b o l)
  | [], w, o => Kept.refl _ _
  | v :: r, w, o => (Kept.set w b o v).trans (Kept.setCells b r _ (o + 1))
theorem stG_one (s : StF) (k : Nat) : (stG s k).oneCell' = true := by
  unfold stG
  split
  · rfl
  · split <;> rfl
theorem stL_one (s : StF) : (stL s).toArray.all (·.oneCell') = true := all_oneCell_toArray (fun v hv => by
  obtain ⟨k, _, rfl⟩ := List.mem_map.1 hv
  exact stG_one s k)
theorem stG_put_34 (s : StF) (v : Int) (j : Nat) : (if j = 34 then .int .u32 v else stG s j) = stG { s with pc := v } j := by
  by_cases e : j = 34
  · subst e; rfl
  · rw [if_neg e]
    unfold stG
    split
    · rfl
    · split <;> first | rfl | exact absurd rfl e
theorem stG_put_35 (s : StF) (v : Int) (j : Nat) : (if j = 35 then .int .u32 v else stG s j) = stG { s with next := v } j := by
  by_cases e : j = 35
  · subst e; rfl
  · rw [if_neg e]
    unfold stG
    split
    · rfl
    · split <;> first | rfl | exact absurd rfl e
theorem stG_put_36 (s : StF) (v : Bool) (j : Nat) : (if j = 36 then .bool v else stG s j) = stG { s with slot := v } j := by
  by_cases e : j = 36
  · subst e; rfl
  · rw [if_neg e]
    unfold stG
    split
    · rfl
    · split <;> first | rfl | exact absurd rfl e
theorem stG_put_0 (s : StF) (v : Int) (j : Nat) : (if j = 0 then .int .u32 v else stG s j) = stG { s with r := updR s.r 0 v } j := by
  by_cases e : j = 0
  · subst e; rfl
  · rw [if_neg e]
    unfold stG
    split
    · dsimp only; rw [updR_other _ _ e]
    · rfl
def placedS (s : StF) (p : Int) : StF := { s with r := updR s.r 0 0, pc := p, next := (p + 4) % 4294967296, slot := false }
def zeroS : StF := ⟨fun _ => 0, 0, 0, 0, 0, false, 0, 0, 0, 0, 0, 0⟩
theorem zeroS_cells : (stL zeroS).toArray = #[.int .u32 0, .int .u32 0, .int .u32 0, .int .u32 0, .int .u32 0, .int .u32 0, .int .u32 0, .int .u32 0, .int .u32 0, .int .u32 0, .int .u32 0, .int .u32 0, .int .u32 0, .int .u32 0, .int .u32 0, .int .u32 0, .int .u32 0, .int .u32 0, .int .u32 0, .int .u32 0, .int .u32 0, .int .u32 0, .int .u32 0, .int .u32 0, .int .u32 0, .int .u32 0, .int .u32 0, .int .u32 0, .int .u32 0, .int .u32 0, .int .u32 0, .int .u32 0, .int .u32 0, .int .u32 0, .int .u32 0, .int .u32 0, .bool false, .int .u32 0, .int .u32 0, .int .u32 0, .int .u32 0, .int .u32 0, .int .i64 0] := rfl
theorem StB.new (w : World) : StB (w.alloc (.cells #[.int .u32 0, .int .u32 0, .int .u32 0, .int .u32 0, .int .u32 0, .int .u32 0, .int .u32 0, .int .u32 0, .int .u32 0, .int .u32 0, .int .u32 0, .int .u32 0, .int .u32 0, .int .u32 0, .int .u32 0, .int .u32 0, .int .u32 0, .int .u32 0, .int .u32 0, .int .u32 0, .int .u32 0, .int .u32 0, .int .u32 0, .int .u32 0, .int .u32 0, .int .u32 0, .int .u32 0, .int .u32 0, .int .u32 0, .int .u32 0, .int .u32 0, .int .u32 0, .int .u32 0, .int .u32 0, .int .u32 0, .int .u32 0, .bool false, .int .u32 0, .int .u32 0, .int .u32 0, .int .u32 0, .int .u32 0, .int .i64 0] 26)) w.heap.size zeroS := by
  rw [← zeroS_cells]
  exact ⟨_, heap_alloc_new w _, by simp [stL_len], fun k hk => by rw [← Array.getElem?_toList, List.toList_toArray]; exact stL_at _ hk⟩
theorem Tryz.infoSt : (Tryz.prog.info? 26).map (·.size) = some 43 := by kernel_rfl
section
variable {s : StF} {p : Int}
set_option maxHeartbeats 8000000 in
set_option maxRecDepth 100000 in
theorem placed_any {w : World} {A : Array Value} (hA : A.size = 45) (hC : ∀ k, k < 43 → A[k]? = some (stG s k)) (hp0 : 0 ≤ p) (hp1 : p < 4294967296) :
    Calls Tryz.prog 10 #[.agg A, .int .u32 p] w fun e w' => e = .returned (.agg (stL (placedS s p)).toArray) ∧ Below w.heap.size w w' := by
  go_enter Tryz.func10, Tryz.ntmps10
  go_upto_region 1 with fail
  have HB0 := (Below.refl w.heap.size w).alloc (Nat.le_refl _) (.cells A 29)
  have HP0 : (w.alloc (.cells A 29)).rangeAt w.heap.size 0 (stL s) := by
    intro j v hj
    have hlt := stL_lt hj
    rw [stL_at s hlt] at hj
    rw [Nat.zero_add, ← hj]
    simp only [World.cell?, heap_alloc_new]
    exact hC j hlt
  have hsz : (w.alloc (.cells A 29)).heap.size = w.heap.size + 1 := by simp
  rw [← hsz]
  generalize w.alloc (.cells A 29) = w1 at *
  clear hC hA
  have HB1 := HB0.alloc (by omega) (.cells #[.int .u32 0, .int .u32 0, .int .u32 0, .int .u32 0, .int .u32 0, .int .u32 0, .int .u32 0, .int .u32 0, .int .u32 0, .int .u32 0, .int .u32 0, .int .u32 0, .int .u32 0, .int .u32 0, .int .u32 0, .int .u32 0, .int .u32 0, .int .u32 0, .int .u32 0, .int .u32 0, .int .u32 0, .int .u32 0, .int .u32 0, .int .u32 0, .int .u32 0, .int .u32 0, .int .u32 0, .int .u32 0, .int .u32 0, .int .u32 0, .int .u32 0, .int .u32 0, .int .u32 0, .int .u32 0, .int .u32 0, .int .u32 0, .bool false, .int .u32 0, .int .u32 0, .int .u32 0, .int .u32 0, .int .u32 0, .int .i64 0] 26)
  have HP1 := World.rangeAt_alloc HP0 (.cells #[.int .u32 0, .int .u32 0, .int .u32 0, .int .u32 0, .int .u32 0, .int .u32 0, .int .u32 0, .int .u32 0, .int .u32 0, .int .u32 0, .int .u32 0, .int .u32 0, .int .u32 0, .int .u32 0, .int .u32 0, .int .u32 0, .int .u32 0, .int .u32 0, .int .u32 0, .int .u32 0, .int .u32 0, .int .u32 0, .int .u32 0, .int .u32 0, .int .u32 0, .int .u32 0, .int .u32 0, .int .u32 0, .int .u32 0, .int .u32 0, .int .u32 0, .int .u32 0, .int .u32 0, .int .u32 0, .int .u32 0, .int .u32 0, .bool false, .int .u32 0, .int .u32 0, .int .u32 0, .int .u32 0, .int .u32 0, .int .i64 0] 26)
  have HS1 := StB.new w1
  rw [hsz] at HS1
  have hsz2 : (w1.alloc (.cells #[.int .u32 0, .int .u32 0, .int .u32 0, .int .u32 0, .int .u32 0, .int .u32 0, .int .u32 0, .int .u32 0, .int .u32 0, .int .u32 0, .int .u32 0, .int .u32 0, .int .u32 0, .int .u32 0, .int .u32 0, .int .u32 0, .int .u32 0, .int .u32 0, .int .u32 0, .int .u32 0, .int .u32 0, .int .u32 0, .int .u32 0, .int .u32 0, .int .u32 0, .int .u32 0, .int .u32 0, .int .u32 0, .int .u32 0, .int .u32 0, .int .u32 0, .int .u32 0, .int .u32 0, .int .u32 0, .int .u32 0, .int .u32 0, .bool false, .int .u32 0, .int .u32 0, .int .u32 0, .int .u32 0, .int .u32 0, .int .i64 0] 26)).heap.size = w.heap.size + 2 := by simp; omega
  generalize w1.alloc (.cells #[.int .u32 0, .int .u32 0, .int .u32 0, .int .u32 0, .int .u32 0, .int .u32 0, .int .u32 0, .int .u32 0, .int .u32 0, .int .u32 0, .int .u32 0, .int .u32 0, .int .u32 0, .int .u32 0, .int .u32 0, .int .u32 0, .int .u32 0, .int .u32 0, .int .u32 0, .int .u32 0, .int .u32 0, .int .u32 0, .int .u32 0, .int .u32 0, .int .u32 0, .int .u32 0, .int .u32 0, .int .u32 0, .int .u32 0, .int .u32 0, .int .u32 0, .int .u32 0, .int .u32 0, .int .u32 0, .int .u32 0, .int .u32 0, .bool false, .int .u32 0, .int .u32 0, .int .u32 0, .int .u32 0, .int .u32 0, .int .i64 0] 26) = w2 at *
  have hi := Tryz.infoSt
  have H2 : StB (w2.alloc (.cells #[.int .u32 0, .int .u32 0, .int .u32 0, .int .u32 0, .int .u32 0, .int .u32 0, .int .u32 0, .int .u32 0, .int .u32 0, .int .u32 0, .int .u32 0, .int .u32 0, .int .u32 0, .int .u32 0, .int .u32 0, .int .u32 0, .int .u32 0, .int .u32 0, .int .u32 0, .int .u32 0, .int .u32 0, .int .u32 0, .int .u32 0, .int .u32 0, .int .u32 0, .int .u32 0, .int .u32 0, .int .u32 0, .int .u32 0, .int .u32 0, .int .u32 0, .int .u32 0, .int .u32 0, .int .u32 0, .int .u32 0, .int .u32 0, .bool false, .int .u32 0, .int .u32 0, .int .u32 0, .int .u32 0, .int .u32 0, .int .i64 0] 26)) (w.heap.size + 2) zeroS := by have := StB.new w2; rwa [hsz2] at this
  have B2 := HB1.alloc (by omega) (.cells #[.int .u32 0, .int .u32 0, .int .u32 0, .int .u32 0, .int .u32 0, .int .u32 0, .int .u32 0, .int .u32 0, .int .u32 0, .int .u32 0, .int .u32 0, .int .u32 0, .int .u32 0, .int .u32 0, .int .u32 0, .int .u32 0, .int .u32 0, .int .u32 0, .int .u32 0, .int .u32 0, .int .u32 0, .int .u32 0, .int .u32 0, .int .u32 0, .int .u32 0, .int .u32 0, .int .u32 0, .int .u32 0, .int .u32 0, .int .u32 0, .int .u32 0, .int .u32 0, .int .u32 0, .int .u32 0, .int .u32 0, .int .u32 0, .bool false, .int .u32 0, .int .u32 0, .int .u32 0, .int .u32 0, .int .u32 0, .int .i64 0] 26)
  have hR2 : StB (w2.alloc (.cells #[.int .u32 0, .int .u32 0, .int .u32 0, .int .u32 0, .int .u32 0, .int .u32 0, .int .u32 0, .int .u32 0, .int .u32 0, .int .u32 0, .int .u32 0, .int .u32 0, .int .u32 0, .int .u32 0, .int .u32 0, .int .u32 0, .int .u32 0, .int .u32 0, .int .u32 0, .int .u32 0, .int .u32 0, .int .u32 0, .int .u32 0, .int .u32 0, .int .u32 0, .int .u32 0, .int .u32 0, .int .u32 0, .int .u32 0, .int .u32 0, .int .u32 0, .int .u32 0, .int .u32 0, .int .u32 0, .int .u32 0, .int .u32 0, .bool false, .int .u32 0, .int .u32 0, .int .u32 0, .int .u32 0, .int .u32 0, .int .i64 0] 26)) (w.heap.size + 1) zeroS := HS1.of_block (((Below.refl _ w2).alloc (Nat.le_refl _) _).block _ (by omega))
  have hwx : (w2.alloc (.cells #[.int .u32 0, .int .u32 0, .int .u32 0, .int .u32 0, .int .u32 0, .int .u32 0, .int .u32 0, .int .u32 0, .int .u32 0, .int .u32 0, .int .u32 0, .int .u32 0, .int .u32 0, .int .u32 0, .int .u32 0, .int .u32 0, .int .u32 0, .int .u32 0, .int .u32 0, .int .u32 0, .int .u32 0, .int .u32 0, .int .u32 0, .int .u32 0, .int .u32 0, .int .u32 0, .int .u32 0, .int .u32 0, .int .u32 0, .int .u32 0, .int .u32 0, .int .u32 0, .int .u32 0, .int .u32 0, .int .u32 0, .int .u32 0, .bool false, .int .u32 0, .int .u32 0, .int .u32 0, .int .u32 0, .int .u32 0, .int .i64 0] 26)).heap.size = w.heap.size + 3 := by simp; omega
  have H3 := H2.put s
  have B3 := B2.trans ((Kept.setCells (w.heap.size + 2) (stL s).toArray.toList (w2.alloc (.cells #[.int .u32 0, .int .u32 0, .int .u32 0, .int .u32 0, .int .u32 0, .int .u32 0, .int .u32 0, .int .u32 0, .int .u32 0, .int .u32 0, .int .u32 0, .int .u32 0, .int .u32 0, .int .u32 0, .int .u32 0, .int .u32 0, .int .u32 0, .int .u32 0, .int .u32 0, .int .u32 0, .int .u32 0, .int .u32 0, .int .u32 0, .int .u32 0, .int .u32 0, .int .u32 0, .int .u32 0, .int .u32 0, .int .u32 0, .int .u32 0, .int .u32 0, .int .u32 0, .int .u32 0, .int .u32 0, .int .u32 0, .int .u32 0, .bool false, .int .u32 0, .int .u32 0, .int .u32 0, .int .u32 0, .int .u32 0, .int .i64 0] 26)) 0).to_below (by omega) (fun k hk => by omega))
  have HR3 := Row.kept (S := fun k => k = w.heap.size + 2) hR2 (Kept.setCells (w.heap.size + 2) (stL s).toArray.toList (w2.alloc (.cells #[.int .u32 0, .int .u32 0, .int .u32 0, .int .u32 0, .int .u32 0, .int .u32 0, .int .u32 0, .int .u32 0, .int .u32 0, .int .u32 0, .int .u32 0, .int .u32 0, .int .u32 0, .int .u32 0, .int .u32 0, .int .u32 0, .int .u32 0, .int .u32 0, .int .u32 0, .int .u32 0, .int .u32 0, .int .u32 0, .int .u32 0, .int .u32 0, .int .u32 0, .int .u32 0, .int .u32 0, .int .u32 0, .int .u32 0, .int .u32 0, .int .u32 0, .int .u32 0, .int .u32 0, .int .u32 0, .int .u32 0, .int .u32 0, .bool false, .int .u32 0, .int .u32 0, .int .u32 0, .int .u32 0, .int .u32 0, .int .i64 0] 26)) 0) (by omega)
  go_upto_region 2 with (first
    | (refine wpList_load_mid rfl 26 (.tmp 6) rfl w.heap.size 0 rfl (stL s) _ HP1 Tryz.underlying26 rfl (by rw [hi, stL_len]) ?_)
    | (refine wpList_store_mid rfl 26 (.tmp 5) (.tmp 7) rfl (w.heap.size + 2) 0 (stL s).toArray rfl rfl (by simpa [stL_len] using H2.there) (by rw [hi]; simp [stL_len]) (stL_one s) ?_))
  generalize (w2.alloc (.cells #[.int .u32 0, .int .u32 0, .int .u32 0, .int .u32 0, .int .u32 0, .int .u32 0, .int .u32 0, .int .u32 0, .int .u32 0, .int .u32 0, .int .u32 0, .int .u32 0, .int .u32 0, .int .u32 0, .int .u32 0, .int .u32 0, .int .u32 0, .int .u32 0, .int .u32 0, .int .u32 0, .int .u32 0, .int .u32 0, .int .u32 0, .int .u32 0, .int .u32 0, .int .u32 0, .int .u32 0, .int .u32 0, .int .u32 0, .int .u32 0, .int .u32 0, .int .u32 0, .int .u32 0, .int .u32 0, .int .u32 0, .int .u32 0, .bool false, .int .u32 0, .int .u32 0, .int .u32 0, .int .u32 0, .int .u32 0, .int .i64 0] 26)).setCells (w.heap.size + 2) 0 (stL s).toArray.toList = w3 at *
  have hsz3 : w.heap.size + 1 < w3.heap.size := HR3.lt
  clear HP0 HP1 HS1 HB1 HB0 H2 B2 hR2 hwx hsz hsz2
  have hx := H3.cell (show 0 < 43 by decide)
  have hf := H3.free 0
  have H4 : StB (w3.setCell ⟨w.heap.size + 2, 0, none⟩ (.int .u32 0)) (w.heap.size + 2) { s with r := updR s.r 0 0 } := (Row.set H3 0 (.int .u32 0)).eqv (fun j hj => stG_put_0 _ _ j)
  have B4 := B3.setCell (p := ⟨w.heap.size + 2, 0, none⟩) (show w.heap.size ≤ w.heap.size + 2 by omega) (.int .u32 0)
  have HR4 := Row.kept HR3 (Kept.set w3 (w.heap.size + 2) 0 (.int .u32 0)) (by omega)
  go_upto_region 3 with fail
  clear hx hf
  generalize w3.setCell ⟨w.heap.size + 2, 0, none⟩ (.int .u32 0) = w4 at *
  have hx := H4.cell (show 34 < 43 by decide)
  have hf := H4.free 34
  have H5 : StB (w4.setCell ⟨w.heap.size + 2, 34, none⟩ (.int .u32 p)) (w.heap.size + 2) { s with r := updR s.r 0 0, pc := p } := (Row.set H4 34 (.int .u32 p)).eqv (fun j hj => stG_put_34 _ _ j)
  have B5 := B4.setCell (p := ⟨w.heap.size + 2, 34, none⟩) (show w.heap.size ≤ w.heap.size + 2 by omega) (.int .u32 p)
  have HR5 := Row.kept HR4 (Kept.set w4 (w.heap.size + 2) 34 (.int .u32 p)) (by omega)
  go_upto_region 4 with fail
  clear hx hf
  generalize w4.setCell ⟨w.heap.size + 2, 34, none⟩ (.int .u32 p) = w5 at *
  have hx := H5.cell (show 35 < 43 by decide)
  have hf := H5.free 35
  have H6 : StB (w5.setCell ⟨w.heap.size + 2, 35, none⟩ (.int .u32 ((p + 4) % 4294967296))) (w.heap.size + 2) { s with r := updR s.r 0 0, pc := p, next := (p + 4) % 4294967296 } := (Row.set H5 35 (.int .u32 ((p + 4) % 4294967296))).eqv (fun j hj => stG_put_35 _ _ j)
  have B6 := B5.setCell (p := ⟨w.heap.size + 2, 35, none⟩) (show w.heap.size ≤ w.heap.size + 2 by omega) (.int .u32 ((p + 4) % 4294967296))
  have HR6 := Row.kept HR5 (Kept.set w5 (w.heap.size + 2) 35 (.int .u32 ((p + 4) % 4294967296))) (by omega)
  go_upto_region 5 with fail
  clear hx hf
  generalize w5.setCell ⟨w.heap.size + 2, 35, none⟩ (.int .u32 ((p + 4) % 4294967296)) = w6 at *
  have hx := H6.cell (show 36 < 43 by decide)
  have hf := H6.free 36
  have H7 : StB (w6.setCell ⟨w.heap.size + 2, 36, none⟩ (.bool false)) (w.heap.size + 2) (placedS s p) := (Row.set H6 36 (.bool false)).eqv (fun j hj => stG_put_36 _ _ j)
  have B7 := B6.setCell (p := ⟨w.heap.size + 2, 36, none⟩) (show w.heap.size ≤ w.heap.size + 2 by omega) (.bool false)
  have HR7 := Row.kept HR6 (Kept.set w6 (w.heap.size + 2) 36 (.bool false)) (by omega)
  go_upto_region 6 with fail
  clear hx hf
  generalize w6.setCell ⟨w.heap.size + 2, 36, none⟩ (.bool false) = w7 at *
  have HT := StB.there HR7
  have HRg := H7.range
  have HP8 := StB.put HR7 (placedS s p)
  have hi8 := Tryz.infoSt
  have B8 := B7.trans ((Kept.setCells (w.heap.size + 1) (stL (placedS s p)).toArray.toList w7 0).to_below (B := w.heap.size) (by have := B7.size; omega) (fun k hk => by omega))
  have hld := run_loadVar_mid (P := Tryz.prog) (w7.setCells (w.heap.size + 1) 0 (stL (placedS s p)).toArray.toList) (w.heap.size + 1) 0 26 (stL (placedS s p)) _ HP8.range Tryz.underlying26 rfl (by rw [hi8, stL_len])
  rename_i K7 hK7
  have hfin : ∀ tm : Array Value, tm.getD 4 undef = .pointer (some ⟨w.heap.size + 1, 0, none⟩) → K7 ⟨tm, []⟩ (w7.setCells (w.heap.size + 1) 0 (stL (placedS s p)).toArray.toList) := by
    intro tm htm
    refine hK7 _ _ ?_
    apply wp_ret
    refine bodyPost_ret (v := .agg (stL (placedS s p)).toArray) ?_ rfl ⟨rfl, B8⟩
    show (results Tryz.f10 tm).run _ _ = _
    have hr : Tryz.f10.results = #[.cell 4 26] := by kernel_rfl
    simp only [results, hr]
    have htm2 : tm[4]?.getD undef = .pointer (some ⟨w.heap.size + 1, 0, none⟩) := by simpa using htm
    have hld2 := hld
    rw [List.toList_toArray] at hld2
    simp [Sem.run_bind, htm2, asAddr, hld2]
  clear hK7
  go_wp2_with (first
    | (refine wpList_load_mid rfl 26 (.tmp 5) rfl (w.heap.size + 2) 0 rfl (stL (placedS s p)) _ HRg Tryz.underlying26 rfl (by rw [hi8, stL_len]) ?_)
    | (refine wpList_store_mid rfl 26 (.tmp 4) (.tmp 16) rfl (w.heap.size + 1) 0 (stL (placedS s p)).toArray rfl rfl (by simpa [stL_len] using HT) (by rw [hi8]; simp [stL_len]) (stL_one _) ?_))
end
end Go.Proofs.YtadoaldnjnkhgaaGreatDoor
namespace Go.Proofs.YtadoaldnjnkhgaaGreatDoor
open Go.RowKit
def oneF (br : Bool) (x : DoRes) : Int × StF × BusF :=
  if 0 ≤ x.2.1 then (x.2.1, x.2.2.1, x.2.2.2) else
  (-1, { x.2.2.1 with r := updR x.2.2.1.r 0 0, pc := x.2.2.1.next, next := if 0 ≤ x.1 then x.1 % 4294967296 else (x.2.2.1.next + 4) % 4294967296, slot := br }, x.2.2.2)
def OneTo (w : World) (B sb b r bw ba bh : Nat) (tv : Value) (wt : Nat → Bool) (x : Int × StF × BusF) (e : Ending) (w' : World) : Prop := e = .returned (.int .i64 x.1) ∧ StepTo w B sb b r bw ba bh tv wt x.2.1 x.2.2 w'
theorem StB.setPc {w : World} {sb : Nat} {s : StF} (h : StB w sb s) (v : Int) : StB (w.setCell ⟨sb, 34, none⟩ (.int .u32 v)) sb { s with pc := v } := (Row.set h 34 (.int .u32 v)).eqv (fun j hj => stG_put_34 _ _ j)
theorem StB.setNext {w : World} {sb : Nat} {s : StF} (h : StB w sb s) (v : Int) : StB (w.setCell ⟨sb, 35, none⟩ (.int .u32 v)) sb { s with next := v } := (Row.set h 35 (.int .u32 v)).eqv (fun j hj => stG_put_35 _ _ j)
theorem StB.setSlot {w : World} {sb : Nat} {s : StF} (h : StB w sb s) (v : Bool) : StB (w.setCell ⟨sb, 36, none⟩ (.bool v)) sb { s with slot := v } := (Row.set h 36 (.bool v)).eqv (fun j hj => stG_put_36 _ _ j)
theorem OneTo.then {w w1 w' : World} {B sb b r bw ba bh : Nat} {tv : Value} {wt : Nat → Bool} {s s' : StF} {F : BusF} (h : StepTo w B sb b r bw ba bh tv wt s F w1) (hs : StB w' sb s') (hk : Kept (fun k => k = sb) w1 w') : StepTo w B sb b r bw ba bh tv wt s' F w' := h.then_state (fun _ _ => hs) hk
section
variable {w : World} {B sb b r bw ba bh S T D o : Nat} {tv : Value} {wt : Nat → Bool} {s s1 : StF} {F F1 : BusF} {m to code : Int} {kl : List UInt8} {bb : Bool}
set_option maxHeartbeats 4000000 in
set_option maxRecDepth 100000 in
theorem oneD_any (ho : o ≠ 45) (hK : ∀ wx, Calls Tryz.prog 24 #[.int .i64 (o : Int)] wx fun e w' => e = .returned (.string (bsl kl)) ∧ Below wx.heap.size wx w') (hkb : ((bsl kl).toList == [98, 114, 97, 110, 99, 104]) = bb)
    (h : CM w B sb b r bw ba bh tv wt s F) (hdo : ∀ W, CM W B sb b r bw ba bh tv wt s F → Calls Tryz.prog 65 #[.pointer (some ⟨sb, 0, none⟩), .pointer (some ⟨b, 0, none⟩), insA o S T D m] W fun e w' => DoTo W B sb b r bw ba bh tv wt (to, code, s1, F1) e w') (hnx : Reg32 s1.next) :
    Calls Tryz.prog 34 #[.pointer (some ⟨sb, 0, none⟩), .pointer (some ⟨b, 0, none⟩), insA o S T D m] w fun e w' => OneTo w B sb b r bw ba bh tv wt (oneF bb (to, code, s1, F1)) e w' := by
  have HK := Lib.hid hK
  have HF0 : InsB (w.alloc (.cells #[.int .i64 (o : Int), .int .i64 (S : Int), .int .i64 (T : Int), .int .i64 (D : Int), .int .u32 m] 61)) w.heap.size o S T D m := Five.new w _ _ _ _ _ _
  have hb := (Below.refl w.heap.size w).alloc (Nat.le_refl _) (.cells #[.int .i64 (o : Int), .int .i64 (S : Int), .int .i64 (T : Int), .int .i64 (D : Int), .int .u32 m] 61)
  have HSZ := Lib.hid (show w.heap.size < (w.alloc (.cells #[.int .i64 (o : Int), .int .i64 (S : Int), .int .i64 (T : Int), .int .i64 (D : Int), .int .u32 m] 61)).heap.size by simp)
  have HB0 := Lib.hid hb
  have HCM0 := Lib.hid (h.below hb)
  have HH := Lib.hid h
  have HF := Lib.hid HF0
  have HD := Lib.hid hdo
  have HNX := Lib.hid hnx
  have HKB := Lib.hid hkb
  have h45 : ((o : Int) == 45) = false := by simp only [beq_eq_false_iff_ne, ne_eq]; omega
  have HP := Lib.hid (fun wx => plusC_any s1.next 4 hnx.1 hnx.2 (by decide) (by decide) wx)
  clear h hb HF0 ho hK hdo hnx hkb
  generalize bsl kl = kb at HK HKB
  go_enter Tryz.func34, Tryz.ntmps34
  obtain ⟨c0, c1, c2, c3, c4⟩ := Five.cells HF.out
  go_wp2_with fail
  generalize w.alloc (.cells #[.int .i64 (o : Int), .int .i64 (S : Int), .int .i64 (T : Int), .int .i64 (D : Int), .int .u32 m] 61) = W at *
  refine (HD.out _ HCM0.out).mono ?_
  rintro e w1 ⟨rfl, hst⟩
  have HST := Lib.hid (hst.behind HB0.out HB0.out.size)
  obtain ⟨tv1, hcm1, hk1, -⟩ := hst
  have HF1 := Lib.hid (show InsB w1 w.heap.size o S T D m from (hk1.same _ HSZ.out (by
    have := HH.out.new_bs (Nat.le_refl _)
    exact this)).trans HF.out)
  have HS1 := Lib.hid hcm1.st
  clear hcm1 hk1 c0 c1 c2 c3 c4 h45 HF HCM0 HD
  by_cases hc : 0 ≤ code
  · have hd : decide (0 ≤ code) = true := decide_eq_true hc
    have HC := Lib.hid hc
    clear hc
    go_wp2
    go_ret
    unfold oneF
    rw [if_pos HC.out]
    exact ⟨rfl, HST.out⟩
  · have hd : decide (0 ≤ code) = false := decide_eq_false hc
    have HC := Lib.hid hc
    clear hc
    have q0 := HS1.out.reg (show 0 < 32 by decide)
    have q0f := HS1.out.free 0
    have HS2 := Lib.hid (StB.setReg HS1.out (show 0 < 32 by decide) 0)
    have HK2 := Lib.hid (Kept.set w1 sb 0 (.int .u32 0))
    go_upto_region 13 with fail
    clear q0 q0f
    generalize w1.setCell ⟨sb, 0, none⟩ (.int .u32 0) = w2 at *
    have q1 : w2.cell? ⟨sb, 35, none⟩ = some (.int .u32 s1.next) := HS2.out.cell (show 35 < 43 by decide)
    have q2 := HS2.out.cell (show 34 < 43 by decide)
    have q2f := HS2.out.free 34
    simp only [stG] at q2
    have HS3 := Lib.hid (StB.setPc HS2.out s1.next)
    have HK3 := Lib.hid (HK2.out.trans (Kept.set w2 sb 34 (.int .u32 s1.next)))
    go_upto_region 14 with fail
    clear q1 q2 q2f
    generalize w2.setCell ⟨sb, 34, none⟩ (.int .u32 s1.next) = w3 at *
    have q1 : w3.cell? ⟨sb, 35, none⟩ = some (.int .u32 s1.next) := HS3.out.cell (show 35 < 43 by decide)
    have q1f := HS3.out.free 35
    have HS4 := Lib.hid (StB.setNext HS3.out ((s1.next + 4) % 4294967296))
    have HK4 := Lib.hid (HK3.out.trans (Kept.set w3 sb 35 (.int .u32 ((s1.next + 4) % 4294967296))))
    go_wp2_with fail
    refine (HP.out _).mono ?_
    rintro e w9 ⟨rfl, rfl⟩
    go_upto_region 15 with fail
    clear q1 q1f
    generalize w3.setCell ⟨sb, 35, none⟩ (.int .u32 ((s1.next + 4) % 4294967296)) = w4 at *
    have HF4 := Lib.hid (show InsB w4 w.heap.size o S T D m from (HK4.out.same _ (Five.lt HF1.out) (by
      have := HH.out.new_bs (Nat.le_refl _)
      intro e
      exact this (.inl e))).trans HF1.out)
    obtain ⟨c0, c1, c2, c3, c4⟩ := Five.cells HF4.out
    go_wp2_with fail
    refine (HK.out _).mono ?_
    rintro e w5 ⟨rfl, hb5⟩
    have hkb := HKB.out
    have HS5 := Lib.hid (show StB w5 sb _ from Row.of_block (w' := w5) HS4.out (hb5.block sb HS4.out.lt))
    have HK5 := Lib.hid (HK4.out.trans (Kept.of_below hb5))
    clear hb5 c0 c1 c2 c3 c4 HF4 HF1
    have q1 := HS5.out.cell (show 36 < 43 by decide)
    have q1f := HS5.out.free 36
    simp only [stG] at q1
    have HS6 := Lib.hid (StB.setSlot HS5.out bb)
    have HK6 := Lib.hid (HK5.out.trans (Kept.set w5 sb 36 (.bool bb)))
    go_upto_region 16 with fail
    clear q1 q1f
    generalize w5.setCell ⟨sb, 36, none⟩ (.bool bb) = w6 at *
    by_cases ht : 0 ≤ to
    · have hdt : decide (0 ≤ to) = true := decide_eq_true ht
      have HTO := Lib.hid ht
      clear ht
      have q1 := HS6.out.cell (show 35 < 43 by decide)
      have q1f := HS6.out.free 35
      simp only [stG] at q1
      have HS7 := Lib.hid (StB.setNext HS6.out (to % 4294967296))
      have HK7 := Lib.hid (HK6.out.trans (Kept.set w6 sb 35 (.int .u32 (to % 4294967296))))
      go_wp2
      go_ret
      unfold oneF
      rw [if_neg (by have := HC.out; dsimp only; omega)]
      dsimp only
      rw [if_pos HTO.out]
      exact ⟨rfl, HST.out.then_state (fun _ _ => HS7.out) HK7.out⟩
    · have hdt : decide (0 ≤ to) = false := decide_eq_false ht
      have HTO := Lib.hid ht
      clear ht
      go_wp2
      go_ret
      unfold oneF
      rw [if_neg (by have := HC.out; dsimp only; omega)]
      dsimp only
      rw [if_neg (by have := HTO.out; omega)]
      exact ⟨rfl, HST.out.then_state (fun _ _ => HS6.out) HK6.out⟩
end
end Go.Proofs.YtadoaldnjnkhgaaGreatDoor
