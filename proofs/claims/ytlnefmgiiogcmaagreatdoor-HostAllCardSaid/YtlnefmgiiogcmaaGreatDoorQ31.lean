/- The walk of plan's Check on a plan that is well. The walk of host's Run on a plan that is well. The walk of ram.New. The walks of (*ram.Ram).Watch (on) and Words. Conditions: as each theorem states. -/
import Derived.Test.YtlnefmgiiogcmaaGreatDoorQ30
import Derived.Test.YtlnefmgiiogcmaaGreatDoorQ27
import Derived.Test.YtlnefmgiiogcmaaGreatDoorQ23
import Derived.Test.YtlnefmgiiogcmaaGreatDoorQ20
import Derived.Test.YtlnefmgiiogcmaaGreatDoorQ13
set_option linter.unusedVariables false
set_option linter.unusedSimpArgs false
namespace Go.Proofs.YtlnefmgiiogcmaaGreatDoor
open Go.RowKit
theorem PlanOK.rowG {many : Nat} {rows : List (List OpN)} (h : PlanOK many rows) {j : Nat} (hj : j < rows.length) : RowG many (decide (j + 1 = rows.length)) rows[j] := by
  have hm := List.getElem_mem hj
  refine ⟨(h.row _ hm).1, (h.row _ hm).2, fun o ho => ⟨(h.good _ hm o ho).1, (h.good _ hm o ho).2.1⟩, h.room _ hm, h.once _ hm, ?_⟩
  rw [Bool.eq_iff_iff, List.any_eq_true, decide_eq_true_iff]
  exact h.out j hj
set_option maxHeartbeats 16000000 in
set_option maxRecDepth 100000 in
theorem planCheck_at {w : World} {B many : Nat} {rv : Value} {rows : List (List OpN)} {pc mx : Int} (h : PRowsAt w B rv rows) (hp : PlanOK many rows) (hf : rows.flatten.length ≤ 100) (hm : w.cell? ⟨8, 0, none⟩ = some (.int .i64 mx)) :
    Calls Tryz.prog 34 #[.agg #[.int .u32 pc, .int .i64 (many : Int), rv]] w fun e w' => e = .returned .nilIface ∧ Below w.heap.size w w' := by
  have HP := Lib.hid hp
  have HF := Lib.hid hf
  obtain ⟨gr, capr, hrv, _, hgl, _⟩ := id h.ex
  subst hrv
  have HR := Lib.hid h
  have m0 : (1 : Int) ≤ (many : Int) := by have := hp.m0; omega
  have m1 : (many : Int) ≤ 24 := by have := hp.m1; omega
  have r0 : (0 : Int) < (rows.length : Int) := by have := hp.ne; omega
  have r1 : (rows.length : Int) ≤ 100 := by have := hp.len; omega
  have r2 : ((rows.length : Int) == 0) = false := by simp only [beq_eq_false_iff_ne, ne_eq]; omega
  have hA1 := (Below.refl w.heap.size w).alloc (Nat.le_refl _) (.cells #[.int .u32 pc, .int .i64 (many : Int), .slice (some ⟨gr, 0, none⟩) rows.length capr] 45)
  have hb1 : (w.alloc (.cells #[.int .u32 pc, .int .i64 (many : Int), .slice (some ⟨gr, 0, none⟩) rows.length capr] 45)).heap[w.heap.size]? = some (Obj.cells #[.int .u32 pc, .int .i64 (many : Int), .slice (some ⟨gr, 0, none⟩) rows.length capr] 45 (0, 0)) := heap_alloc_new w _
  have hmx := (hA1.cell (p := ⟨8, 0, none⟩) (World.block_lt_of_cell? _ _ hm)).trans hm
  have HR1 := Lib.hid (h.below hA1)
  have HA := Lib.hid hA1
  have HB1 := Lib.hid hb1
  have HMX := Lib.hid hmx
  clear hA1 hb1 hmx h hp hm hf hgl
  go_enter Tryz.func34, Tryz.ntmps34
  go_wp2_with fail
  generalize hW : w.alloc (.cells #[.int .u32 pc, .int .i64 (many : Int), .slice (some ⟨gr, 0, none⟩) rows.length capr] 45) = W1 at *
  clear hW
  obtain ⟨b0, b1, b2, bf⟩ := plan_cells HB1.out
  go_wp2_with fail
  go_loopw [3, 4, 5, 31] (fun xv bv cv iv wr => ∃ j : Nat, j ≤ rows.length ∧ iv = .int .i64 (j : Int) ∧ Hid (Below W1.heap.size W1 wr)) (fun _ _ _ iv _ => rows.length - (intOf iv).toNat)
  case atStart => exact ⟨0, Nat.zero_le _, rfl, Lib.hid (Below.refl _ _)⟩
  case round =>
    obtain ⟨j, hj, rfl, HB⟩ := hrel
    clear b0 b1 b2 bf
    obtain ⟨b0, b1, b2, bf⟩ := plan_cells ((HB.out.block _ (Array.getElem?_eq_some_iff.1 HB1.out).1).trans HB1.out)
    by_cases hlt : j < rows.length
    · have hjI : (j : Int) < (rows.length : Int) := by omega
      obtain ⟨g', cap', hrv2, -, -, hrow⟩ := (HR1.out.below HB.out).ex
      obtain ⟨gj, capj, c0', -, hat, hcj⟩ := hrow j hlt
      have hgg : gr = g' := by
        simp only [Value.slice.injEq, Option.some.injEq, Addr.mk.injEq] at hrv2
        exact hrv2.1.1
      subst hgg
      have hmw := (HB.out.cell (p := ⟨8, 0, none⟩) (World.block_lt_of_cell? _ _ HMX.out)).trans HMX.out
      have HK := Lib.hid hlt
      have HRW := Lib.hid (prow_at hat hcj (HP.out.rowG hlt) hmw)
      clear hrow hat hcj hmw hrv2
      generalize rows[j] = R at *
      by_cases hl : j + 1 = rows.length
      · have HD : Hid (decide (j + 1 = rows.length) = true) := Lib.hid (decide_eq_true hl)
        rw [HD.out] at HRW
        have he : ((j : Int) == (rows.length : Int) - 1) = true := by simp only [beq_iff_eq]; omega
        clear hlt hl
        go_wp2_with fail
        refine HRW.out.mono ?_
        rintro e w3 ⟨rfl, hb3⟩
        have HB3 := Lib.hid (HB.out.trans (hb3.mono HB.out.size))
        clear hb3 HRW
        go_wp2_with fail
        go_roundw
        case rel => exact ⟨j + 1, HK.out, by go_num, HB3⟩
        case measure => have := HK.out; go_light; simp [intOf]; omega
      · have HD : Hid (decide (j + 1 = rows.length) = false) := Lib.hid (decide_eq_false hl)
        rw [HD.out] at HRW
        have he : ((j : Int) == (rows.length : Int) - 1) = false := by simp only [beq_eq_false_iff_ne, ne_eq]; omega
        clear hlt hl
        go_wp2_with fail
        refine HRW.out.mono ?_
        rintro e w3 ⟨rfl, hb3⟩
        have HB3 := Lib.hid (HB.out.trans (hb3.mono HB.out.size))
        clear hb3 HRW
        go_wp2_with fail
        go_roundw
        case rel => exact ⟨j + 1, HK.out, by go_num, HB3⟩
        case measure => have := HK.out; go_light; simp [intOf]; omega
    · obtain rfl : j = rows.length := by omega
      have hd : decide ((rows.length : Int) < (rows.length : Int)) = false := decide_eq_false (by omega)
      have HCC := Lib.hid (concat_rows (HR1.out.below HB.out) (List.length_pos_iff.1 HP.out.ne) (fun r hr => List.length_pos_iff.1 (HP.out.row r hr).1) HF.out)
      go_wp2_with fail
      refine HCC.out.mono ?_
      rintro e w3 ⟨g3, cap3, rfl, hat3, hb3⟩
      have HB3 := Lib.hid (HB.out.trans (hb3.mono HB.out.size))
      have HST := Lib.hid (irStores_any (cap := cap3) hat3 HF.out)
      have hs8 : (storesO rows.flatten : Int) ≤ 8 := by have := HP.out.st; omega
      have hs0 : (0 : Int) ≤ (storesO rows.flatten : Int) := by omega
      clear hat3 hb3 HCC HB hd b0 b1 b2 bf
      generalize hFL : rows.flatten = FL at *
      clear hFL
      go_wp2_with fail
      refine HST.out.mono ?_
      rintro e w4 ⟨rfl, hb4⟩
      have HB4 := Lib.hid (HA.out.trans ((HB3.out.trans (hb4.mono HB3.out.size)).mono HA.out.size))
      clear hb4 HST HB3
      go_wp2
      go_ret
      exact ⟨rfl, HB4.out⟩
end Go.Proofs.YtlnefmgiiogcmaaGreatDoor
namespace Go.Proofs.YtlnefmgiiogcmaaGreatDoor
open Go.RowKit
theorem flat_stores (rows : List (List OpN)) {j : Nat} (hj : j < rows.length) : storesO (rows.take (j + 1)).flatten = storesO (rows.take j).flatten + storesO rows[j] := by
  rw [flat_take rows hj, storesO_app]
theorem flat_stores_le (rows : List (List OpN)) (j : Nat) : storesO (rows.take j).flatten ≤ storesO rows.flatten := by
  conv => rhs; rw [← List.take_append_drop j rows, List.flatten_append, storesO_app]
  omega
set_option maxHeartbeats 32000000 in
set_option maxRecDepth 100000 in
theorem hrun_any {w : World} {sb r Br many bb mw mh n : Nat} {rv : Value} {rows : List (List OpN)} {pc mx : Int} {s : StF} {ws : List Int} {wt ht : Nat → Bool} {ad : Nat → Addr} (hs : StB w sb s) (hrm : RamP w r bb mw mh ws wt ht n) (h : PRowsAt w Br rv rows) (hc : PlanOK many rows) (hfl : rows.flatten.length ≤ 100) (hm : w.cell? ⟨8, 0, none⟩ = some (.int .i64 mx)) (hse : Sents w ad)
    (hp : s.slot = false) (hn : s.next = (s.pc + 4) % 4294967296) (hpc : s.pc = pc) (c0 : 0 ≤ s.count) (c1 : s.count ≤ 4611686018427387904) (hX : RegsOK (regsP s)) (hsep : r ≠ sb ∧ bb ≠ sb ∧ mw ≠ sb ∧ mh ≠ sb) (hdd : bb ≠ mw ∧ bb ≠ mh ∧ bb ≠ r ∧ mh ≠ r) (hnn : n < 1099511627000) :
    Calls Tryz.prog 12 #[.agg #[.int .u32 pc, .int .i64 (many : Int), rv], .pointer (some ⟨sb, 0, none⟩), .pointer (some ⟨r, 0, none⟩)] w fun e w' => EvalP w sb r bb mw mh n s ws wt ht many (rowsZ wt rows (regsP s) ws) e w' := by
  have HRAM := Lib.hid hrm
  have HSEP := Lib.hid (And.intro hsep (And.intro hdd hnn))
  have HXX := Lib.hid hX
  have HSE := Lib.hid hse
  obtain ⟨gr, capr, hrv, -, hgl, -⟩ := id h.ex
  subst hrv
  clear hrm hsep hdd hnn hX hse hgl
  obtain ⟨Z, hZ⟩ : ∃ Z, rowsZ wt rows (regsP s) ws = Z := ⟨_, rfl⟩
  rw [hZ]
  have HZ0 : Hid (rowsZ wt (rows.drop 0) (regsP s) (applyW ws []) = Z) := Lib.hid (by rw [List.drop_zero]; exact hZ)
  clear hZ
  have hb1 := (Below.refl w.heap.size w).alloc (Nat.le_refl _) (.cells #[.int .u32 pc, .int .i64 (many : Int), .slice (some ⟨gr, 0, none⟩) rows.length capr] 45)
  have hb2 := hb1.alloc hb1.size (.cells #[.bool false, .int .i64 0] 52)
  have HB := Lib.hid hb2
  have HC := Lib.hid hc
  have HFL := Lib.hid hfl
  have HBX : Hid (((w.alloc (.cells #[.int .u32 pc, .int .i64 (many : Int), .slice (some ⟨gr, 0, none⟩) rows.length capr] 45)).alloc (.cells #[.bool false, .int .i64 0] 52)).heap[w.heap.size]? = some (.cells #[.int .u32 pc, .int .i64 (many : Int), .slice (some ⟨gr, 0, none⟩) rows.length capr] 45 (0, 0))) := Lib.hid ((Below.heap_alloc _ _ _ (by simp)).trans (heap_alloc_new w _))
  have HSZ : Hid (w.heap.size + 1 < ((w.alloc (.cells #[.int .u32 pc, .int .i64 (many : Int), .slice (some ⟨gr, 0, none⟩) rows.length capr] 45)).alloc (.cells #[.bool false, .int .i64 0] 52)).heap.size) := Lib.hid (by simp)
  have HED : Hid (((w.alloc (.cells #[.int .u32 pc, .int .i64 (many : Int), .slice (some ⟨gr, 0, none⟩) rows.length capr] 45)).alloc (.cells #[.bool false, .int .i64 0] 52)).heap[w.heap.size + 1]? = some (.cells #[.bool false, .int .i64 0] 52 (0, 0))) := Lib.hid (by have := heap_alloc_new (w.alloc (.cells #[.int .u32 pc, .int .i64 (many : Int), .slice (some ⟨gr, 0, none⟩) rows.length capr] 45)) (.cells #[.bool false, .int .i64 0] 52); simpa using this)
  have HS := Lib.hid (show StB ((w.alloc (.cells #[.int .u32 pc, .int .i64 (many : Int), .slice (some ⟨gr, 0, none⟩) rows.length capr] 45)).alloc (.cells #[.bool false, .int .i64 0] 52)) sb s from hs.of_block (hb2.block sb hs.lt))
  have HO := Lib.hid (h.below hb2)
  have HP := Lib.hid h
  have HMX := Lib.hid ((hb2.cell (p := ⟨8, 0, none⟩) (World.block_lt_of_cell? _ _ hm)).trans hm)
  have HLT := Lib.hid hs.lt
  have HRD := Lib.hid (And.intro hp (And.intro hn hpc))
  have HCT := Lib.hid (And.intro c0 c1)
  have l0 : (0 : Int) < (rows.length : Int) := by have := hc.ne; omega
  have l1 : (rows.length : Int) ≤ 100 := by have := hc.len; omega
  clear hs h hc hm hp hn hpc c0 c1 hb1 hb2 hfl
  go_enter Tryz.func12, Tryz.ntmps12
  go_wp2_with fail
  generalize (w.alloc (.cells #[.int .u32 pc, .int .i64 (many : Int), .slice (some ⟨gr, 0, none⟩) rows.length capr] 45)).alloc (.cells #[.bool false, .int .i64 0] 52) = W at *
  refine (planCheck_at HO.out HC.out HFL.out HMX.out).mono ?_
  rintro e w1 ⟨rfl, hb1⟩
  have HB1 := Lib.hid (HB.out.trans (hb1.mono HB.out.size))
  have HBX1 := Lib.hid ((hb1.block _ (by have := HSZ.out; omega)).trans HBX.out)
  have HED1 := Lib.hid ((hb1.block _ HSZ.out).trans HED.out)
  have HS1 := Lib.hid (show StB w1 sb s from Row.of_block (w' := w1) HS.out (hb1.block sb HS.out.lt))
  have HO1 := Lib.hid (HO.out.below hb1)
  have HSZ1 := Lib.hid (Nat.lt_of_lt_of_le HSZ.out hb1.size)
  clear hb1 HB HBX HED HS HO HSZ HMX
  obtain ⟨b0, b1, b2, bf⟩ := plan_cells HBX1.out
  have HRY := Lib.hid (irReady_yes HS1.out HRD.out.1 HRD.out.2.1)
  rw [HRD.out.2.2] at HRY
  have HNM := Lib.hid (newMachineP_any (r := r) HS1.out)
  go_wp2_with fail
  refine HRY.out.mono ?_
  rintro e w2 ⟨rfl, rfl⟩
  go_wp2_with fail
  refine HNM.out.mono ?_
  intro e w2 hm2
  obtain ⟨mb, rfl, hmb, hM2, hb2⟩ := hm2
  have HB2 := Lib.hid (HB1.out.trans (hb2.mono HB1.out.size))
  have HBX2 := Lib.hid ((hb2.block _ (by have := HSZ1.out; omega)).trans HBX1.out)
  have HED2 := Lib.hid ((hb2.block _ HSZ1.out).trans HED1.out)
  have HS2 := Lib.hid (show StB w2 sb s from Row.of_block (w' := w2) HS1.out (hb2.block sb HS1.out.lt))
  have HO2 := Lib.hid (HO1.out.below hb2)
  have HM2 := Lib.hid hM2
  have HMB := Lib.hid (show w.heap.size + 1 < mb by have := HSZ1.out; omega)
  clear hmb hM2 hb2 b0 b1 b2 bf HB1 HBX1 HED1 HS1 HO1 HRY HNM
  obtain ⟨b0, b1, b2, bf⟩ := plan_cells HBX2.out
  go_wp2_with fail
  clear b0 b1 b2 bf
  have HEV0 : Hid (EvS w2 r bb mw mh mb (w.heap.size + 2) n (regsP s) (.slice none 0 0) ws wt ht []) := Lib.hid
    { ram := HRAM.out.below HB2.out
      mp := HM2.out
      wait := World.ownsRow_nil _ _ _ _
      good := fun x hx => by cases hx
      regs := HXX.out
      low := by
        have h1 := HRAM.out.lt
        have h2 := HRAM.out.bytes.lt
        have h3 := HRAM.out.watch.lt
        have h4 := HRAM.out.hits.lt
        have h5 := HMB.out
        exact ⟨by omega, by omega, by omega, by omega, by omega⟩ }
  clear HM2
  go_loopw [11, 12, 13, 14, 42] (fun u11 u12 u13 u14 i wr => ∃ (j : Nat) (X : Regs) (wv : Value) (W : List StoW), j ≤ rows.length ∧ i = .int .i64 (j : Int) ∧ Hid (EvS wr r bb mw mh mb (w.heap.size + 2) n X wv ws wt ht W) ∧ Hid (rowsZ wt (rows.drop j) X (applyW ws W) = Z) ∧ Hid (W.length = storesO (rows.take j).flatten) ∧ Hid (Below (w.heap.size + 2) w2 wr)) (fun _ _ _ _ i _ => rows.length - (intOf i).toNat)
  case atStart => exact ⟨0, _, _, _, Nat.zero_le _, rfl, HEV0, HZ0, Lib.hid (by simp [storesO]), Lib.hid (Below.refl _ _)⟩
  case round =>
    obtain ⟨j, X, wv, W, hj, rfl, HEV, HZJ, HWL, HBJ⟩ := hrel
    clear HEV0 HZ0
    have HBXj := Lib.hid ((HBJ.out.block w.heap.size (by omega)).trans HBX2.out)
    have HEDj := Lib.hid ((HBJ.out.block (w.heap.size + 1) (by omega)).trans HED2.out)
    have HBW := Lib.hid (HB2.out.trans (HBJ.out.mono (by omega)))
    by_cases hlt : j < rows.length
    · have hjI : (j : Int) < (rows.length : Int) := by omega
      obtain ⟨g', cap', hrv2, -, -, hrow⟩ := (HP.out.below HBW.out).ex
      obtain ⟨gj, capj, q0, -, hat, hcj⟩ := hrow j hlt
      have hgg : gr = g' := by
        simp only [Value.slice.injEq, Option.some.injEq, Addr.mk.injEq] at hrv2
        exact hrv2.1.1
      subst hgg
      have HK := Lib.hid hlt
      have HWT : Hid (W.length + storesO rows[j] ≤ 8) := Lib.hid (by
        have h1 := flat_stores rows hlt
        have h2 := flat_stores_le rows (j + 1)
        have h3 := HC.out.st
        have h4 := HWL.out
        omega)
      have HFS := Lib.hid (flat_stores rows hlt)
      have HDR := Lib.hid (List.drop_eq_getElem_cons hlt)
      have HRN := Lib.hid (HC.out.row _ (List.getElem_mem hlt))
      have HRW := Lib.hid (hrow_any (cap := capj) HEV.out hat HRN.out.1 HRN.out.2 HWT.out (fun o ho => (HC.out.good _ (List.getElem_mem hlt) o ho).2) (HSE.out.below HBW.out))
      rw [HDR.out] at HZJ
      clear hrow hat hcj hrv2
      generalize rows[j] = R at *
      clear hlt hj
      go_wp2_with fail
      refine HRW.out.mono ?_
      intro e w5 hp5
      unfold HRowP at hp5
      have hB5 : ∀ {wx : World}, Below (w.heap.size + 2) wr wx → Below (w.heap.size + 2) w2 wx := fun hb => HBJ.out.trans hb
      cases hfd : R.find? (fun o => trapO wt o X) with
      | some o =>
        rw [hfd] at hp5
        obtain ⟨rfl, hb5⟩ := hp5
        have HZT : Hid (Z = .trap o.at') := Lib.hid (by rw [← HZJ.out]; exact rows_trap hfd)
        have HB5 := Lib.hid (HBW.out.trans (hb5.mono HBW.out.size))
        have HED5 := Lib.hid ((hb5.block _ (Array.getElem?_eq_some_iff.1 HEDj.out).1).trans HEDj.out)
        generalize o.at' = m at *
        have hm0 : decide ((0 : Int) ≤ (m : Int)) = true := decide_eq_true (by omega)
        clear hb5 hfd hB5 HRW q0
        obtain ⟨r0, r1⟩ := two_cells HED5.out
        obtain ⟨f0, f1⟩ := two_free HED5.out
        have h9 := Joins.block_setCell (i := 1) (Joins.block_setCell (i := 0) HED5.out (.bool true)) (.int .i64 (m : Int))
        obtain ⟨y0, y1⟩ := two_cells (w := (w5.setCell ⟨w.heap.size + 1, 0, none⟩ (.bool true)).setCell ⟨w.heap.size + 1, 1, none⟩ (.int .i64 (m : Int))) (a0 := .bool true) (a1 := .int .i64 (m : Int)) h9
        have HBE := Lib.hid ((HB5.out.setCell (p := ⟨w.heap.size + 1, 0, none⟩) (Nat.le_succ _) (.bool true)).setCell (p := ⟨w.heap.size + 1, 1, none⟩) (Nat.le_succ _) (.int .i64 (m : Int)))
        clear h9
        go_wp2_with fail
        generalize (w5.setCell ⟨w.heap.size + 1, 0, none⟩ (.bool true)).setCell ⟨w.heap.size + 1, 1, none⟩ (.int .i64 (m : Int)) = W9 at *
        exact bodyPost_ret (v := .tuple #[.agg #[.bool true, .int .i64 (m : Int)], .nilIface]) (by simp [results, Tryz.results12, go_sem, y0, y1]) rfl (by rw [HZT.out]; exact ⟨rfl, HBE.out⟩)
      | none =>
        rw [hfd] at hp5
        obtain ⟨pc5, lv, wv5, rfl, hlv, hev5, hb5⟩ := hp5
        have HEV5 := Lib.hid hev5
        have HB5 := Lib.hid (hB5 hb5)
        have HWL5 : Hid ((rowWaits X R W).length = storesO (rows.take (j + 1)).flatten) := Lib.hid (by rw [rowWaits_len, HFS.out, HWL.out])
        have hbx5 := HBW.out.trans (hb5.mono (by omega))
        have HBX5 := Lib.hid ((HB5.out.block w.heap.size (by omega)).trans HBX2.out)
        have HED5 := Lib.hid ((HB5.out.block (w.heap.size + 1) (by omega)).trans HED2.out)
        have HBW5 := Lib.hid hbx5
        obtain ⟨b0, b1, b2, bf⟩ := plan_cells HBX5.out
        cases lv with
        | true =>
          have HZL : Hid (Z = .leave pc5 (rowRegs X (applyW ws W) R X) (applyW ws (rowWaits X R W))) := Lib.hid (by rw [← HZJ.out]; exact rows_leave hfd hlv)
          have HS5 := Lib.hid (show StB w5 sb s from Row.of_block (w' := w5) HS2.out (HB5.out.block sb (by have := HLT.out; omega)))
          have HLP := Lib.hid (leaveP_all (pc := pc5) HEV5.out (by rw [rowWaits_len]; exact HWT.out) HS5.out (by have := HLT.out; omega) HSEP.out.1 HSEP.out.2.1 HSEP.out.2.2 HCT.out.1 HCT.out.2 HC.out.m1)
          clear hfd hlv hev5 hb5 hbx5 hB5 HRW q0
          go_wp2_with fail
          refine HLP.out.mono ?_
          rintro e w6 ⟨rfl, hs6, hr6, hk6⟩
          have hl1 := HRAM.out.bytes.lt
          have hl2 := HRAM.out.hits.lt
          have hl3 := HRAM.out.lt
          have hl4 := HRAM.out.watch.lt
          have hl5 := HLT.out
          have HED6 := Lib.hid ((hk6.same _ (Array.getElem?_eq_some_iff.1 HED5.out).1 (by omega)).trans HED5.out)
          have KST := (Kept.set w6 (w.heap.size + 1) 0 (.bool false)).trans (Kept.set (w6.setCell ⟨w.heap.size + 1, 0, none⟩ (.bool false)) (w.heap.size + 1) 1 (.int .i64 0))
          have HFS6 := Lib.hid (hs6.kept KST (by omega))
          have HFR := Lib.hid (hr6.kept KST (by omega) (by omega) (by omega) (by omega))
          have HFK : Hid (Kept (fun k => k = sb ∨ k = bb ∨ k = mh) w ((w6.setCell ⟨w.heap.size + 1, 0, none⟩ (.bool false)).setCell ⟨w.heap.size + 1, 1, none⟩ (.int .i64 0))) := Lib.hid (by
            have kk := (((Kept.of_below (S := fun k => k = sb ∨ k = bb ∨ k = mh) HBW5.out).trans hk6).mono (T := fun k => (k = sb ∨ k = bb ∨ k = mh) ∨ k = w.heap.size + 1) (fun _ x => Or.inl x)).trans (KST.mono (fun _ x => Or.inr x))
            exact ⟨kk.below, fun i hi hs => kk.same i hi (fun x => x.elim hs (fun e => by omega))⟩)
          have h9 := Joins.block_setCell (i := 1) (Joins.block_setCell (i := 0) HED6.out (.bool false)) (.int .i64 0)
          obtain ⟨y0, y1⟩ := two_cells (w := (w6.setCell ⟨w.heap.size + 1, 0, none⟩ (.bool false)).setCell ⟨w.heap.size + 1, 1, none⟩ (.int .i64 0)) (a0 := .bool false) (a1 := .int .i64 0) h9
          obtain ⟨r0, r1⟩ := two_cells HED6.out
          obtain ⟨f0, f1⟩ := two_free HED6.out
          clear hl1 hl2 hl3 hl4 hl5 KST h9 hs6 hr6 hk6 b0 b1 b2 bf
          go_wp2_with fail
          exact bodyPost_ret (v := .tuple #[.agg #[.bool false, .int .i64 0], .nilIface]) (by simp [results, Tryz.results12, go_sem, y0, y1]) rfl (by rw [HZL.out]; exact ⟨rfl, HFS6.out, ⟨_, HFR.out⟩, HFK.out⟩)
        | false =>
          have HZ5 : Hid (rowsZ wt (rows.drop (j + 1)) (rowRegs X (applyW ws W) R X) (applyW ws (rowWaits X R W)) = Z) := Lib.hid (by rw [← HZJ.out]; exact (rows_next hfd hlv).symm)
          clear hfd hlv hev5 hb5 hbx5 hB5 HRW q0
          go_wp2_with fail
          go_roundw
          case rel => exact ⟨j + 1, _, wv5, _, HK.out, by go_num, HEV5, HZ5, HWL5, HB5⟩
          case measure => have := HK.out; go_light; simp [intOf]; omega
    · obtain rfl : j = rows.length := by omega
      have hd : decide ((rows.length : Int) < (rows.length : Int)) = false := decide_eq_false (by omega)
      rw [List.drop_length] at HZJ
      have hz : Ran.fell = Z := HZJ.out
      subst hz
      obtain ⟨r0, r1⟩ := two_cells HEDj.out
      obtain ⟨f0, f1⟩ := two_free HEDj.out
      have h9 := Joins.block_setCell (i := 1) (Joins.block_setCell (i := 0) HEDj.out (.bool false)) (.int .i64 0)
      obtain ⟨y0, y1⟩ := two_cells (w := (wr.setCell ⟨w.heap.size + 1, 0, none⟩ (.bool false)).setCell ⟨w.heap.size + 1, 1, none⟩ (.int .i64 0)) (a0 := .bool false) (a1 := .int .i64 0) h9
      clear h9
      go_wp2_with fail
      exact bodyPost_ret (v := .tuple #[.agg #[.bool false, .int .i64 0], .nilIface]) (by simp [results, Tryz.results12, go_sem, y0, y1]) rfl trivial
end Go.Proofs.YtlnefmgiiogcmaaGreatDoor
namespace Go.Proofs.YtlnefmgiiogcmaaGreatDoor
open Go.RowKit
theorem Tryz.infoB : (Tryz.prog.info? 5).map (fun i => (i.zero, i.size, i.bytes)) = some (some (.int .u8 0), 1, 1) := by kernel_rfl
theorem sizeB : (Tryz.prog.info? 5).map (·.size) = some 1 := by kernel_rfl
theorem four_new (w : World) (a b c d : Value) (t : TypeId) : ∀ j v, [a, b, c, d][j]? = some v → (w.alloc (.cells #[a, b, c, d] t)).cell? ((⟨w.heap.size, 0, none⟩ : Addr).add j) = some v := by
  intro j u hj
  match j, hj with
  | 0, hj => simp at hj; subst hj; simp [Addr.add]
  | 1, hj => simp at hj; subst hj; simp [Addr.add]
  | 2, hj => simp at hj; subst hj; simp [Addr.add]
  | 3, hj => simp at hj; subst hj; simp [Addr.add]
  | j + 4, hj => simp at hj
def fourB (x : Int) : List Value := [.int .u8 (x / 16777216), .int .u8 (x / 65536 % 256), .int .u8 (x / 256 % 256), .int .u8 (x % 256)]
theorem four_at (x : Int) (j : Nat) (hj : j < 4) (x0 : 0 ≤ x) (x1 : x < 4294967296) (d : Value) : (fourB x).getD j d = .int .u8 (x / 2 ^ (24 - 8 * j) % 256) := by
  have h : j = 0 ∨ j = 1 ∨ j = 2 ∨ j = 3 := by omega
  rcases h with rfl | rfl | rfl | rfl
  · show Value.int .u8 (x / 16777216) = .int .u8 (x / 16777216 % 256)
    exact congrArg _ (by omega)
  · rfl
  · rfl
  · show Value.int .u8 (x % 256) = .int .u8 (x / 1 % 256)
    rw [Int.ediv_one]
theorem byte_fill {us : List Int} (hus : WsOK us) {k : Nat} (hk : k < us.length) (hk2 : k < 4096) (i : Nat) : bytesG (fillW us (k + 1)) i = if 4 * k ≤ i ∧ i < 4 * k + 4 then (fourB us[k]).getD (i - 4 * k) (bytesG (fillW us k) i) else bytesG (fillW us k) i := by
  rw [← fillW_set us hk hk2]
  unfold bytesG byteAt
  have hl : (fillW us k).length = 4096 := fillW_len us (Nat.le_of_lt hk) (Nat.le_of_lt hk2)
  rw [List.getD_eq_getElem?_getD (l := (fillW us k).set k us[k]), List.getElem?_set]
  by_cases e : k = i / 4
  · have h1 : 4 * k ≤ i ∧ i < 4 * k + 4 := by omega
    rw [if_pos e, if_pos (by omega), if_pos h1, four_at _ _ (by omega) (hus _ (List.getElem_mem hk)).1 (hus _ (List.getElem_mem hk)).2, show i - 4 * k = i % 4 by omega]
    rfl
  · rw [if_neg e, if_neg (by omega), List.getD_eq_getElem?_getD]
theorem fill_zero (us : List Int) (i : Nat) : bytesG (fillW us 0) i = .int .u8 0 := by
  unfold bytesG byteAt fillW
  rw [List.take_zero, List.nil_append, List.getD_eq_getElem?_getD, List.getElem?_replicate]
  split <;> simp
def MadeP (w : World) (ws : List Int) (wt : Nat → Bool) (n : Nat) (e : Ending) (w' : World) : Prop := ∃ r bb mw mh, e = .returned (.pointer (some ⟨r, 0, none⟩)) ∧ RamP w' r bb mw mh ws wt (fun _ => false) n ∧ Below w.heap.size w w' ∧ w.heap.size ≤ r ∧ w.heap.size ≤ bb ∧ w.heap.size ≤ mw ∧ w.heap.size ≤ mh ∧ (bb ≠ mw ∧ bb ≠ mh ∧ bb ≠ r ∧ mh ≠ r)
structure NewS (w wr : World) (us : List Int) (k : Nat) : Prop where
  blk : wr.heap[w.heap.size + 1 + 1 + 1]? = some (.cells #[.slice (some ⟨w.heap.size, 0, none⟩) 16384 16384, .map (some (w.heap.size + 1)), .map (some (w.heap.size + 1 + 1))] 100 (0, 0))
  bytes : Row wr w.heap.size 5 16384 (bytesG (fillW us k))
  watch : PageM wr (w.heap.size + 1) (fun _ => false) 0
  hits : PageM wr (w.heap.size + 1 + 1) (fun _ => false) 0
  bel : Below w.heap.size w wr
theorem page_none : pageF (fun _ => false) = fun _ => none := by
  funext p
  unfold pageF
  rw [if_neg (fun h => by cases h.2.2)]
theorem newS_made (w : World) {mc : Array Value} (h1 : mc.size = 16384) (h2 : ∀ i, i < 16384 → mc[i]? = some (.int .u8 0)) (us : List Int) :
    NewS w ((((w.alloc (.cells mc 5)).alloc (.map #[] 0)).alloc (.map #[] 0)).alloc (.cells #[.slice (some ⟨w.heap.size, 0, none⟩) 16384 16384, .map (some (w.heap.size + 1)), .map (some (w.heap.size + 1 + 1))] 100)) us 0 := by
  have e1 : (w.alloc (.cells mc 5)).heap.size = w.heap.size + 1 := by simp
  have k1 := (Below.refl w.heap.size w).alloc (Nat.le_refl _) (.cells mc 5)
  have b1 := heap_alloc_new w (.cells mc 5)
  generalize w.alloc (.cells mc 5) = w1 at *
  have b2 := MapF.made (P := Tryz.prog) (k := 3) (e := 4) (q := none) w1
  have k2 := (Below.refl w1.heap.size w1).alloc (Nat.le_refl _) (.map #[] 0)
  have e2 : (w1.alloc (.map #[] 0)).heap.size = w.heap.size + 1 + 1 := by simp [e1]
  generalize w1.alloc (.map #[] 0) = w2 at *
  have b3 := MapF.made (P := Tryz.prog) (k := 3) (e := 4) (q := none) w2
  have k3 := (Below.refl w2.heap.size w2).alloc (Nat.le_refl _) (.map #[] 0)
  have e3 : (w2.alloc (.map #[] 0)).heap.size = w.heap.size + 1 + 1 + 1 := by simp [e2]
  generalize w2.alloc (.map #[] 0) = w3 at *
  obtain ⟨R, hR⟩ : ∃ R, Obj.cells #[.slice (some ⟨w.heap.size, 0, none⟩) 16384 16384, .map (some (w.heap.size + 1)), .map (some (w.heap.size + 1 + 1))] 100 = R := ⟨_, rfl⟩
  have b4 := heap_alloc_new w3 R
  have k4 := (Below.refl w3.heap.size w3).alloc (Nat.le_refl _) R
  rw [hR]
  generalize w3.alloc R = w4 at *
  rw [e1] at b2
  rw [e2] at b3
  rw [e3, ← hR] at b4
  refine ⟨b4, ⟨mc, (k4.block _ (by omega)).trans ((k3.block _ (by omega)).trans ((k2.block _ (by omega)).trans b1)), h1, fun k hk => by rw [h2 k hk, fill_zero]⟩, ?_, ?_, ?_⟩
  · show MapF _ _ _ _ _ _ _ _
    rw [page_none]
    exact (b2.of_block (k3.block _ (by omega))).of_block (k4.block _ (by omega))
  · show MapF _ _ _ _ _ _ _ _
    rw [page_none]
    exact b3.of_block (k4.block _ (by omega))
  · exact ((k1.trans (k2.mono (by omega))).trans (k3.mono (by omega))).trans (k4.mono (by omega))
theorem NewS.made {w wr : World} {us : List Int} (hus : WsOK us) (h : NewS w wr us (min us.length 4096)) : MadeP w (padW us) (fun _ => false) 0 (.returned (.pointer (some ⟨w.heap.size + 1 + 1 + 1, 0, none⟩))) wr :=
  ⟨_, _, _, _, rfl, ⟨h.blk, h.bytes, h.watch, h.hits, by omega, padW_len us, fillW_ok hus _⟩, h.bel, by omega, Nat.le_refl _, by omega, by omega, by omega, by omega, by omega, by omega⟩
set_option maxHeartbeats 4000000 in
set_option maxRecDepth 100000 in
theorem newP_some (b o cap m : Nat) (us : List Int) (e1 : min (us.length : Int) 4096 = (m : Int)) (hl : us.length ≤ 5000) (hcap : us.length ≤ cap) (hus : WsOK us) (w : World) (hc : ∀ k (h : k < us.length), w.cell? ⟨b, o + k, none⟩ = some (.int .u32 us[k])) :
    Calls Tryz.prog 15 #[.slice (some ⟨b, o, none⟩) us.length cap] w fun e w' => MadeP w (padW us) (fun _ => false) 0 e w' := by
  have hm : m = min us.length 4096 := by omega
  have m1 : m ≤ us.length := by omega
  have m2 : m ≤ 4096 := by omega
  obtain ⟨mc, hmc, hmc1, hmc2⟩ := made_row (.int .u8 0) 16384
  have hmk : ∀ W : World, (Instr.makeSlice 97 (.int .i64 16384) (.int .i64 16384)).run Tryz.prog W = .ok (.slice (some ⟨W.heap.size, 0, none⟩) 16384 16384) (W.alloc (.cells mc 5)) := by
    intro W
    rw [← hmc]
    exact run_make_row' 97 5 (.int .u8 0) 1 Tryz.underlying97 Tryz.infoB rfl .i64 .i64 16384 (by decide) (by decide) W
  have hmm := @run_makeMap Tryz.prog
  have HC := Lib.hid hc
  have HUS := Lib.hid hus
  have HM := Lib.hid hm
  have HN0 := Lib.hid (newS_made w hmc1 hmc2 us)
  clear hmc hmc1 hmc2 hc hus hm
  go_enter Tryz.func15, Tryz.ntmps15
  go_wp2_with fail
  generalize ((((w.alloc (.cells mc 5)).alloc (.map #[] 0)).alloc (.map #[] 0)).alloc (.cells #[.slice (some ⟨w.heap.size, 0, none⟩) 16384 16384, .map (some (w.heap.size + 1)), .map (some (w.heap.size + 1 + 1))] 100)) = w1 at *
  clear hmk hmm
  go_loopw [17] (fun i wr => ∃ k : Nat, k ≤ m ∧ i = .int .i64 (k : Int) ∧ Hid (NewS w wr us k)) (fun i _ => m - (intOf i).toNat)
  case atStart => exact ⟨0, Nat.zero_le _, rfl, HN0⟩
  case round =>
    obtain ⟨k, hk, rfl, HR⟩ := hrel
    clear HN0
    have c0 : wr.cell? ⟨w.heap.size + 1 + 1 + 1, 0, none⟩ = some (.slice (some ⟨w.heap.size, 0, none⟩) 16384 16384) := by simp [World.cell?, HR.out.blk]
    by_cases hlt : k < m
    · have hku : k < us.length := by omega
      have hx := (HR.out.bel.cell (World.block_lt_of_cell? _ _ (HC.out k hku))).trans (HC.out k hku)
      obtain ⟨x0, x1⟩ := HUS.out _ (List.getElem_mem hku)
      have HST := Lib.hid (fun i => byte_fill HUS.out hku (show k < 4096 by omega) i)
      have HKM := Lib.hid hlt
      have hkI : (k : Int) < (m : Int) := by omega
      have hkI2 : (k : Int) < 4096 := by omega
      have HHI : Hid (w.heap.size + 1 + 1 + 1 < wr.heap.size) := Lib.hid (Array.getElem?_eq_some_iff.1 HR.out.blk).1
      generalize us[k] = x at *
      have hal := (Below.refl wr.heap.size wr).alloc (Nat.le_refl _) (.cells (fourB x).toArray 5)
      have HRA : Hid (Row (wr.alloc (.cells #[.int .u8 (x / 16777216), .int .u8 (x / 65536 % 256), .int .u8 (x / 256 % 256), .int .u8 (x % 256)] 5)) w.heap.size 5 16384 (bytesG (fillW us k))) := Lib.hid (HR.out.bytes.of_block (hal.block _ (by have := HHI.out; omega)))
      have HAL : Hid (Below wr.heap.size wr (wr.alloc (.cells #[.int .u8 (x / 16777216), .int .u8 (x / 65536 % 256), .int .u8 (x / 256 % 256), .int .u8 (x % 256)] 5))) := Lib.hid hal
      clear hal hlt hku
      go_wp2_with (refine wpList_copy_row rfl (.tmp 28) (.tmp 40) 97 97 rfl 5 Tryz.underlying97 sizeB w.heap.size (4 * k) _ _ _ _ _ rfl rfl 5 16384 _ HRA.out (fourB x) ?hn (four_new wr _ _ _ _ _) ?hfit ?h1 ?_)
      case hn => show 4 = Nat.min 4 (16384 - 4 * k); exact (Nat.min_eq_left (by have := HKM.out; omega)).symm
      case hfit => show 4 * k + 4 ≤ 16384; have := HKM.out; omega
      case h1 => intro v hv; simp [fourB] at hv; rcases hv with rfl | rfl | rfl | rfl <;> rfl
      intro w5 hrow5 hk5
      have HN5 : Hid (NewS w w5 us (k + 1)) := Lib.hid
        { blk := (hk5.same _ (by have := HAL.out.size; have := HHI.out; omega) (by omega)).trans ((HAL.out.block _ HHI.out).trans HR.out.blk)
          bytes := hrow5.eqv (fun i hi => (HST.out i).symm)
          watch := HR.out.watch.of_block ((hk5.same _ (by have := HAL.out.size; have := HHI.out; omega) (by omega)).trans (HAL.out.block _ (by have := HHI.out; omega)))
          hits := HR.out.hits.of_block ((hk5.same _ (by have := HAL.out.size; have := HHI.out; omega) (by omega)).trans (HAL.out.block _ (by have := HHI.out; omega)))
          bel := (HR.out.bel.trans (HAL.out.mono HR.out.bel.size)).trans (hk5.to_below (by have := HAL.out.size; have := HR.out.bel.size; omega) (fun j hj => by omega)) }
      clear hrow5 hk5 HRA HAL HR c0 hx x0 x1 HST
      go_wp2
      go_roundw
      case rel => exact ⟨k + 1, HKM.out, by go_num, HN5⟩
      case measure => have := HKM.out; go_light; simp [intOf]; omega
    · have hkm : k = m := by omega
      subst hkm
      have HMA := Lib.hid (NewS.made HUS.out (by rw [← HM.out]; exact HR.out))
      clear hlt
      go_wp2
      go_ret
      exact HMA.out
set_option maxHeartbeats 4000000 in
set_option maxRecDepth 100000 in
theorem newP_nil (w : World) :
    Calls Tryz.prog 15 #[.slice none 0 0] w fun e w' => MadeP w (padW []) (fun _ => false) 0 e w' := by
  obtain ⟨mc, hmc, hmc1, hmc2⟩ := made_row (.int .u8 0) 16384
  have hmk : ∀ W : World, (Instr.makeSlice 97 (.int .i64 16384) (.int .i64 16384)).run Tryz.prog W = .ok (.slice (some ⟨W.heap.size, 0, none⟩) 16384 16384) (W.alloc (.cells mc 5)) := by
    intro W
    rw [← hmc]
    exact run_make_row' 97 5 (.int .u8 0) 1 Tryz.underlying97 Tryz.infoB rfl .i64 .i64 16384 (by decide) (by decide) W
  have hmm := @run_makeMap Tryz.prog
  have HN0 := Lib.hid (newS_made w hmc1 hmc2 [])
  clear hmc hmc1 hmc2
  go_enter Tryz.func15, Tryz.ntmps15
  go_wp2_with fail
  generalize ((((w.alloc (.cells mc 5)).alloc (.map #[] 0)).alloc (.map #[] 0)).alloc (.cells #[.slice (some ⟨w.heap.size, 0, none⟩) 16384 16384, .map (some (w.heap.size + 1)), .map (some (w.heap.size + 1 + 1))] 100)) = w1 at *
  clear hmk hmm
  go_loopw [17] (fun i wr => i = .int .i64 0 ∧ Hid (NewS w wr [] 0)) (fun i _ => 0)
  case atStart => exact ⟨rfl, HN0⟩
  case round =>
    obtain ⟨rfl, HR⟩ := hrel
    have HMA := Lib.hid (NewS.made (us := []) (fun z hz => by cases hz) HR.out)
    clear HN0
    go_wp2
    go_ret
    exact HMA.out
end Go.Proofs.YtlnefmgiiogcmaaGreatDoor
namespace Go.Proofs.YtlnefmgiiogcmaaGreatDoor
open Go.RowKit
def setPg (f : Nat → Bool) (p : Nat) (v : Bool) : Nat → Bool := fun k => if k = p then v else f k
theorem pageF_set (f : Nat → Bool) {p : Int} (h0 : 0 ≤ p) (h1 : p < 64) : updF (pageF f) p (some 1) = pageF (setPg f p.toNat true) := by
  funext x
  unfold updF pageF setPg
  by_cases e : x = p
  · subst e
    rw [if_pos rfl, if_pos ⟨h0, h1, if_pos rfl⟩]
  · rw [if_neg e]
    by_cases e2 : 0 ≤ x ∧ x < 64
    · have e3 : ¬ x.toNat = p.toNat := by omega
      rw [if_neg e3]
    · rw [if_neg (fun h => e2 ⟨h.1, h.2.1⟩), if_neg (fun h => e2 ⟨h.1, h.2.1⟩)]
section
variable {w : World} {r bb mw mh n : Nat} {ws : List Int} {wt ht : Nat → Bool}
set_option maxHeartbeats 2000000 in
theorem watchOn_yes (h : RamP w r bb mw mh ws wt ht n) (hne : bb ≠ mw ∧ r ≠ mw) (hn : n < 1099511627776) (p : Int) (p0 : 0 ≤ p) (p1 : p < 64) :
    Calls Tryz.prog 27 #[.pointer (some ⟨r, 0, none⟩), .int .i64 p, .bool true] w fun e w' => e = .returned .nilIface ∧ RamP w' r bb mw mh ws (setPg wt p.toNat true) ht (n + 1) ∧ Kept (fun k => k = mw) w w' := by
  obtain ⟨c0, c1, c2⟩ := h.cells
  have HR := Lib.hid h
  have HN := Lib.hid hn
  have HNE := Lib.hid hne
  have d0 : decide (p < 0) = false := decide_eq_false (by omega)
  have d1 : decide (64 ≤ p) = false := decide_eq_false (by omega)
  clear h hn hne
  go_enter Tryz.func27, Tryz.ntmps27
  go_wp2_with (at_mapUpdate; refine wpList_mapF_put rfl _ _ _ 98 rfl HR.out.watch Tryz.underlying3 Tryz.underlying98 Tryz.underlying4 (by have := HN.out; unfold maxLen; omega) (p := p) (y := 1) (wf_small (by omega) (by omega)) (.inr rfl) rfl rfl rfl ?_; intro w5 hm5 hk5)
  go_ret
  rw [pageF_set wt p0 p1] at hm5
  have HP := HR.out
  exact ⟨rfl, ⟨(hk5.same r HP.lt HNE.out.2).trans HP.blk, HP.bytes.kept hk5 HNE.out.1, hm5, (HP.hits.of_block (hk5.same mh HP.hits.lt (fun e => HP.ne e.symm))).mono (by omega), HP.ne, HP.len, HP.ok⟩, hk5⟩
theorem watchOn_no (p : Int) (hp : p < 0 ∨ 64 ≤ p) {ad : Nat → Addr} (hS : Sents w ad) :
    Calls Tryz.prog 27 #[.pointer (some ⟨r, 0, none⟩), .int .i64 p, .bool true] w fun e w' => (∃ x, e = .returned x) ∧ w = w' := by
  have c1 := hS.c1
  clear hS
  rcases hp with hp | hp
  · have d0 : decide (p < 0) = true := decide_eq_true hp
    go_enter Tryz.func27, Tryz.ntmps27
    go_wp2
    go_ret
    exact ⟨⟨_, rfl⟩, rfl⟩
  · have d0 : decide (p < 0) = false := decide_eq_false (by omega)
    have d1 : decide (64 ≤ p) = true := decide_eq_true hp
    go_enter Tryz.func27, Tryz.ntmps27
    go_wp2
    go_ret
    exact ⟨⟨_, rfl⟩, rfl⟩
end
/-! Words. -/
def wordK (ws : List Int) (i j : Nat) : Int := loadN ws (4 * j) (min 4 (i - 4 * j))
theorem wordK_zero (ws : List Int) (j : Nat) : wordK ws 0 j = 0 := by
  unfold wordK
  rw [show min 4 (0 - 4 * j) = 0 by omega]
  rfl
theorem four_bytes (x : Int) (h0 : 0 ≤ x) (h1 : x < 4294967296) : 256 * (256 * (256 * (256 * 0 + x / 16777216 % 256) + x / 65536 % 256) + x / 256 % 256) + x / 1 % 256 = x := by omega
theorem wordK_full {ws : List Int} (hw : WsOK ws) (j : Nat) (h : j < 4096) : wordK ws 16384 j = ws.getD j 0 := by
  unfold wordK
  rw [show min 4 (16384 - 4 * j) = 4 by omega]
  have hb : ∀ c, c < 4 → byteAt ws (4 * j + c) = ws.getD j 0 / 2 ^ (24 - 8 * c) % 256 := by
    intro c hc
    unfold byteAt
    rw [show (4 * j + c) / 4 = j by omega, show (4 * j + c) % 4 = c by omega]
  show 256 * (256 * (256 * (256 * 0 + byteAt ws (4 * j + 0)) + byteAt ws (4 * j + 1)) + byteAt ws (4 * j + 2)) + byteAt ws (4 * j + 3) = _
  rw [hb 0 (by decide), hb 1 (by decide), hb 2 (by decide), hb 3 (by decide)]
  have hr : 0 ≤ ws.getD j 0 ∧ ws.getD j 0 < 4294967296 := by
    rw [List.getD_eq_getElem?_getD]
    cases e : ws[j]? with
    | none => exact ⟨by decide, by decide⟩
    | some z => exact hw z (List.mem_of_getElem? e)
  exact four_bytes _ hr.1 hr.2
theorem wordK_step (ws : List Int) (i j : Nat) : wordK ws (i + 1) j = if j = i / 4 then 256 * wordK ws i j + byteAt ws i else wordK ws i j := by
  unfold wordK
  by_cases h : j = i / 4
  · rw [if_pos h]
    have e1 : min 4 (i + 1 - 4 * j) = (i - 4 * j) + 1 := by omega
    have e2 : min 4 (i - 4 * j) = i - 4 * j := by omega
    rw [e1, e2, loadN, show 4 * j + (i - 4 * j) = i by omega]
  · rw [if_neg h]
    by_cases q : j < i / 4
    · rw [show min 4 (i + 1 - 4 * j) = 4 by omega, show min 4 (i - 4 * j) = 4 by omega]
    · rw [show min 4 (i + 1 - 4 * j) = 0 by omega, show min 4 (i - 4 * j) = 0 by omega]
theorem wordK_here (ws : List Int) (i : Nat) : 0 ≤ wordK ws i (i / 4) ∧ wordK ws i (i / 4) < 16777216 := by
  unfold wordK
  have h := load_ok ws (4 * (i / 4)) (min 4 (i - 4 * (i / 4)))
  refine ⟨h.1, Int.lt_of_lt_of_le h.2 ?_⟩
  have e : min 4 (i - 4 * (i / 4)) = 0 ∨ min 4 (i - 4 * (i / 4)) = 1 ∨ min 4 (i - 4 * (i / 4)) = 2 ∨ min 4 (i - 4 * (i / 4)) = 3 := by omega
  rcases e with e | e | e | e <;> rw [e] <;> decide
def WordsP (w : World) (ws : List Int) (e : Ending) (w' : World) : Prop := ∃ g, e = .returned (.slice (some ⟨g, 0, none⟩) 4096 4096) ∧ w.heap.size ≤ g ∧ Row w' g 22 4096 (wordsG ws) ∧ Below w.heap.size w w'
set_option maxHeartbeats 2000000 in
theorem words_any {w : World} {r bb mw mh n : Nat} {ws : List Int} {wt ht : Nat → Bool} (h : RamP w r bb mw mh ws wt ht n) :
    Calls Tryz.prog 14 #[.pointer (some ⟨r, 0, none⟩)] w fun e w' => WordsP w ws e w' := by
  obtain ⟨mc, hmc, hmc1, hmc2⟩ := made_row (.int .u32 0) 4096
  have hmk : ∀ W : World, (Instr.makeSlice 27 (.int .i64 4096) (.int .i64 4096)).run Tryz.prog W = .ok (.slice (some ⟨W.heap.size, 0, none⟩) 4096 4096) (W.alloc (.cells mc 22)) := by
    intro W
    rw [← hmc]
    exact run_make_row' 27 22 (.int .u32 0) 4 Tryz.underlying27 Tryz.infoU rfl .i64 .i64 4096 (by decide) (by decide) W
  have hal := (Below.refl w.heap.size w).alloc (Nat.le_refl _) (.cells mc 22)
  have HR := Lib.hid h
  have HR1 := h.below hal
  obtain ⟨c0, _, _⟩ := h.cells
  obtain ⟨c1, _, _⟩ := HR1.cells
  have HAL := Lib.hid hal
  have HW0 : Hid (Row (w.alloc (.cells mc 22)) w.heap.size 22 4096 (fun j => .int .u32 (wordK ws 0 j))) := Lib.hid ⟨mc, heap_alloc_new w _, hmc1, fun j hj => by rw [hmc2 j hj, wordK_zero]⟩
  clear h hmc hmc1 hmc2 hal HR1
  go_enter Tryz.func14, Tryz.ntmps14
  go_wp2_with fail
  generalize w.alloc (.cells mc 22) = W1 at *
  go_loopw [18] (fun v wr => ∃ i : Nat, i ≤ 16384 ∧ v = .int .i64 (i : Int) ∧ Hid (Row wr w.heap.size 22 4096 (fun j => .int .u32 (wordK ws i j))) ∧ Hid (Below w.heap.size w wr)) (fun v _ => 16384 - (intOf v).toNat)
  case atStart => exact ⟨0, Nat.zero_le _, rfl, HW0, HAL⟩
  case round =>
    obtain ⟨i, hi, rfl, HW, HB⟩ := hrel
    clear c0 c1 hmk HW0 HAL
    by_cases hlt : i < 16384
    · have hx : wr.cell? ⟨bb, i, none⟩ = some (.int .u8 (byteAt ws i)) := ((HR.out.bytes.of_block (HB.out.block bb HR.out.bytes.lt)).cell hlt)
      have hy := HW.out.cell (show i / 4 < 4096 by omega)
      have hfr := HW.out.free (i / 4)
      obtain ⟨hf0, hf1⟩ := byte_ok ws i
      obtain ⟨ha0, ha1⟩ := wordK_here ws i
      have hor := or_byte2 _ _ ha0 ha1 hf0 hf1
      have HST := Lib.hid (fun j => wordK_step ws i j)
      have HLT := Lib.hid hlt
      have hltZ : (i : Int) < 16384 := by omega
      have HNX : Hid (Row (wr.setCell ⟨w.heap.size, i / 4, none⟩ (.int .u32 (256 * wordK ws i (i / 4) + byteAt ws i))) w.heap.size 22 4096 (fun j => .int .u32 (wordK ws (i + 1) j))) := Lib.hid ((HW.out.set (i / 4) (.int .u32 (256 * wordK ws i (i / 4) + byteAt ws i))).eqv (fun j hj => by
        rw [HST.out j]
        by_cases e : j = i / 4
        · subst e
          rw [if_pos rfl, if_pos rfl]
        · rw [if_neg e, if_neg e]))
      have HB2 := Lib.hid (HB.out.setCell (p := ⟨w.heap.size, i / 4, none⟩) (Nat.le_refl _) (.int .u32 (256 * wordK ws i (i / 4) + byteAt ws i)))
      generalize wordK ws i (i / 4) = x at *
      generalize byteAt ws i = y at *
      clear hlt hi HW HB HST
      go_wp2
      go_roundw
      case rel => exact ⟨i + 1, HLT.out, by go_num, HNX, HB2⟩
      case measure => have := HLT.out; go_light; simp [intOf]; omega
    · obtain rfl : i = 16384 := by omega
      have HWW := Lib.hid (HW.out.eqv (g' := wordsG ws) (fun j hj => by rw [wordK_full HR.out.ok j hj]; rfl))
      clear hlt hi HW
      go_wp2
      go_ret
      exact ⟨_, rfl, Nat.le_refl _, HWW.out, HB.out⟩
end Go.Proofs.YtlnefmgiiogcmaaGreatDoor
