/- The walk of the document's branch of an instruction. Conditions: as each theorem states. -/
import Derived.Test.YtadoaldnjnkhgaaGreatDoorQ20
import Derived.Test.YtadoaldnjnkhgaaGreatDoorQ04
import Derived.Deep.RegionHeld3
import Derived.Deep.MidRow
set_option linter.unusedVariables false
set_option linter.unusedSimpArgs false
namespace Go.Proofs.YtadoaldnjnkhgaaGreatDoor
open Go.RowKit
theorem near_eq (a b : Int) : (a + 4 + b) % 4294967296 = (some (((a + 4) % 4294967296 + b) % 4294967296)).getD (-1) := by
  show _ = ((a + 4) % 4294967296 + b) % 4294967296
  omega
theorem cell_setCell_block (w : World) (b i : Nat) (v : Value) {k j : Nat} (h : k ≠ b) : (w.setCell ⟨b, i, none⟩ v).cell? ⟨k, j, none⟩ = w.cell? ⟨k, j, none⟩ := World.cell?_of_block (setCell_other w b i k v h)
theorem ret_pair {a b : Int} (h : a = b) : Ending.returned (.tuple #[.int .i64 a, .int .i64 (-1)]) = .returned (.tuple #[.int .i64 b, .int .i64 (-1)]) := by rw [h]
def BrTo (w : World) (sb : Nat) (s : StF) (x : Regs × Option Int) (e : Ending) (w' : World) : Prop := e = .returned (.tuple #[.int .i64 (x.2.getD (-1)), .int .i64 (-1)]) ∧ StB w' sb { s with r := x.1 } ∧ Kept (fun k => k = sb) w w'
def isRegK (n : Nat) : Code → Bool
  | .region k _ _ => k == n
  | _ => false
def behindC (n : Nat) : Code → Option Code
  | .seq a b => if isRegK n a = true then some b else match behindC n a with
    | some c => some c
    | none => behindC n b
  | .block _ c => behindC n c
  | .cond _ a b => match behindC n a with
    | some c => some c
    | none => behindC n b
  | .loop c => behindC n c
  | _ => none
noncomputable def behindK (n : Nat) (f : Func) : Code := ((f.body.bind (behindC n)).getD .skip)
set_option maxHeartbeats 4000000 in
set_option maxRecDepth 100000 in
theorem brD_tail {w W : World} {sb S T D o : Nat} {s : StF} {m : Int} (ho : brOp o = true) (HF : Hid (InsB W w.heap.size o S T D m)) (HS : Hid (StB W sb s)) (HK : Hid (Kept (fun k => k = sb) w W)) (hR : RegsOK s.r) (hp : Reg32 s.pc) (hS : S < 32) (hT : T < 32) (hD : D < 32) (m0 : 0 ≤ m) (m1 : m < 67108864) (hnb : w.heap.size ≠ sb) (v2 v9 v10 v11 v12 v13 v14 v15 v16 v17 v18 v19 v20 v21 v22 v23 v24 v25 v26 v27 v28 v29 v30 v31 v32 v33 v34 v35 v36 v37 v38 v39 v40 v41 v42 v43 v44 v45 v46 v47 v48 v49 v50 v51 v52 v53 v54 v55 v56 v57 v58 v59 v60 v61 v62 v63 v64 v65 v66 v67 v68 v69 v70 v71 v72 v73 v74 v75 v76 v77 v78 v79 v80 v81 v82 v83 v84 v85 v86 v87 v88 v89 v90 v91 v92 v93 v94 v95 v96 v97 v98 v99 v100 v101 v102 v103 v104 v105 v106 v107 v108 v109 v110 v111 : Value) :
    Code.wp Tryz.prog (behindK 5 Tryz.f103) (bodyPost Tryz.prog Tryz.f103 fun e w' => BrTo w sb s (brZ o S T D m s.r s.pc) e w') ⟨#[.pointer (some ⟨sb, 0, none⟩), insA o S T D m, v2, .pointer (some ⟨w.heap.size, 0, none⟩), .int .i64 0, .int .i64 0, .int .u32 (s.r S), .int .u32 (s.r T), .int .i64 ((s.pc + 4 + 4 * wrap32 (wideS m)) % 4294967296), v9, v10, v11, v12, v13, v14, v15, v16, v17, v18, v19, v20, v21, v22, v23, v24, v25, v26, v27, v28, v29, v30, v31, v32, v33, v34, v35, v36, v37, v38, v39, v40, v41, v42, v43, v44, v45, v46, v47, v48, v49, v50, v51, v52, v53, v54, v55, v56, v57, v58, v59, v60, v61, v62, v63, v64, v65, v66, v67, v68, v69, v70, v71, v72, v73, v74, v75, v76, v77, v78, v79, v80, v81, v82, v83, v84, v85, v86, v87, v88, v89, v90, v91, v92, v93, v94, v95, v96, v97, v98, v99, v100, v101, v102, v103, v104, v105, v106, v107, v108, v109, v110, v111], []⟩ W := by
  have HC1 := Lib.hid (fun wx => (plusC_any s.pc 4 hp.1 hp.2 (by decide) (by decide) wx).mono (fun _ _ h => And.intro h.1 h.2.symm))
  have HC8 := Lib.hid (fun wx => (plusC_any s.pc 8 hp.1 hp.2 (by decide) (by decide) wx).mono (fun _ _ h => And.intro h.1 h.2.symm))
  have HC2 := Lib.hid (fun wx => signed_val (s.r S) (hR S).1 (hR S).2 wx)
  have hq := r32_mod (s.pc + 4)
  have HE : Hid (∀ k, brZ k S T D m s.r s.pc = brZ k S T D m s.r s.pc) := Lib.hid (fun _ => rfl)
  have HPC : Hid (∃ q, (s.pc + 4) % 4294967296 = q) := Lib.hid ⟨_, rfl⟩
  have HN := Lib.hid (And.intro hS (And.intro hT hD))
  have HRR := Lib.hid hR
  have HQ := Lib.hid hq
  have iS : (S : Int) < 32 := by omega
  have iT : (T : Int) < 32 := by omega
  have iD : (D : Int) < 32 := by omega
  obtain ⟨q, HQE⟩ : ∃ q, Hid ((s.pc + 4) % 4294967296 = q) := ⟨_, Lib.hid rfl⟩
  rw [HQE.out] at HC1
  have q0 : 0 ≤ q := by have := hq.1; have := HQE.out; omega
  have q1 : q < 4294967296 := by have := hq.2; have := HQE.out; omega
  have hwx : IntKind.i64.wrap (s.r S) = s.r S := IntWalk.i64_in _ ⟨by have := (hR S).1; omega, by have := (hR S).2; omega⟩
  have HNB : Hid (w.heap.size ≠ sb) := Lib.hid hnb
  clear hnb
  have w1 : IntKind.i64.wrap q = q := IntWalk.i64_in _ ⟨by omega, by omega⟩
  have w2 : q.tdiv 268435456 = q / 268435456 := Int.tdiv_eq_ediv_of_nonneg q0
  have w3 : IntKind.i64.wrap (q / 268435456) = q / 268435456 := IntWalk.i64_in _ ⟨by omega, by omega⟩
  have w4 : IntKind.i64.wrap (q / 268435456 * 268435456) = q / 268435456 * 268435456 := IntWalk.i64_in _ ⟨by omega, by omega⟩
  have w5 : IntKind.i64.wrap m = m := IntWalk.i64_in _ ⟨by omega, by omega⟩
  have w6 : IntKind.i64.wrap (4 * m) = 4 * m := IntWalk.i64_in _ ⟨by omega, by omega⟩
  have w7 : IntKind.i64.wrap (q / 268435456 * 268435456 + 4 * m) = q / 268435456 * 268435456 + 4 * m := IntWalk.i64_in _ ⟨by omega, by omega⟩
  clear hq hR hp hS hT hD m0 m1 q0 q1
  conv => arg 2; whnf
  obtain ⟨c0, c1, c2, c3, c4⟩ := Five.cells HF.out
  have hpc : W.cell? ⟨sb, 34, none⟩ = some (.int .u32 s.pc) := HS.out.cell (show 34 < 43 by decide)
  go_wp2_with fail
  refine wp_region_still_lit (by kernel_rfl) (by kernel_rfl) ?_
  repeat still_step
  still_call (HC1.out _)
  repeat still_step
  refine wpStill_nil ?_
  change Exit.then _ _ Exit.normal _ W.drew
  have HF2 := Lib.hid (InsB.drew HF.out)
  have HS2 := Lib.hid (StB.drew HS.out)
  have HK2 := Lib.hid (Kept.trans HK.out (Kept.of_below (Below.refl _ W).drew))
  clear c0 c1 c2 c3 c4 hpc HF HS HK
  generalize W.drew = W2 at *
  obtain ⟨c0, c1, c2, c3, c4⟩ := Five.cells HF2.out
  have hpc : W2.cell? ⟨sb, 34, none⟩ = some (.int .u32 s.pc) := HS2.out.cell (show 34 < 43 by decide)
  have hoc : o = 7 ∨ o = 8 ∨ o = 29 ∨ o = 30 ∨ o = 31 ∨ o = 32 ∨ o = 33 ∨ o = 34 := by
    unfold brOp at ho
    simpa using ho
  clear ho
  rcases hoc with rfl | rfl | rfl | rfl | rfl | rfl | rfl | rfl
  · have c0l : W2.cell? ⟨w.heap.size, 0, none⟩ = some (.int .i64 7) := c0
    clear c0
    go_wp2
    go_ret2
    exact ⟨rfl, HS2.out, HK2.out⟩
  · have c0l : W2.cell? ⟨w.heap.size, 0, none⟩ = some (.int .i64 8) := c0
    clear c0
    go_wp2_with fail
    have HS3 := Lib.hid (StB.setReg (StB.drew HS2.out) (d := D) HN.out.2.2 ((s.pc + 8) % 4294967296))
    have HK3 := Lib.hid ((HK2.out.trans (Kept.of_below (Below.refl _ W2).drew)).trans (Kept.set W2.drew sb D (.int .u32 ((s.pc + 8) % 4294967296))))
    have hz := HS2.out.reg (k := D) HN.out.2.2
    have hzf := HS2.out.free D
    generalize hze : (s.pc + 8) % 4294967296 = z at *
    have HZE := Lib.hid hze
    clear hze
    refine wp_region_still_tail 11 (by kernel_rfl) (by kernel_rfl) ?_
    simp only [List.take_succ_cons, List.take_zero, List.drop_succ_cons, List.drop_zero]
    repeat still_step
    still_call (HC8.out _)
    repeat still_step
    try refine wpStill_nil ?_
    change wpList _ _ _ _ _ W2.drew
    have hzd : W2.drew.cell? ⟨sb, D, none⟩ = some _ := hz
    have hzfd : W2.drew.frozen? ⟨sb, D, none⟩ = false := hzf
    have c0d : W2.drew.cell? ⟨w.heap.size, 0, none⟩ = _ := c0l
    have HF3 := Lib.hid (Five.cells (InsB.drew HF2.out))
    have HNE : Hid (w.heap.size ≠ sb) := HNB
    clear hz hzf c0l c1 c2 c3 c4 hpc
    generalize W2.drew = W3 at *
    have c0e : (W3.setCell ⟨sb, D, none⟩ (.int .u32 z)).cell? ⟨w.heap.size, 0, none⟩ = _ := (cell_setCell_block W3 sb D _ HNB.out).trans c0d
    go_wp2
    go_ret2
    obtain rfl := HZE.out
    exact ⟨rfl, HS3.out, HK3.out⟩
  · have c0l : W2.cell? ⟨w.heap.size, 0, none⟩ = some (.int .i64 29) := c0
    clear c0
    go_wp2
    go_ret2
    exact ⟨ret_pair (by rw [← HQE.out]; rfl), HS2.out, HK2.out⟩
  · have c0l : W2.cell? ⟨w.heap.size, 0, none⟩ = some (.int .i64 30) := c0
    clear c0
    go_wp2_with fail
    have HS3 := Lib.hid (StB.setReg (StB.drew HS2.out) (d := 31) (by decide) ((s.pc + 8) % 4294967296))
    have HK3 := Lib.hid ((HK2.out.trans (Kept.of_below (Below.refl _ W2).drew)).trans (Kept.set W2.drew sb 31 (.int .u32 ((s.pc + 8) % 4294967296))))
    have hz := HS2.out.reg (k := 31) (by decide)
    have hzf := HS2.out.free 31
    generalize hze : (s.pc + 8) % 4294967296 = z at *
    have HZE := Lib.hid hze
    clear hze
    refine wp_region_still_tail 9 (by kernel_rfl) (by kernel_rfl) ?_
    simp only [List.take_succ_cons, List.take_zero, List.drop_succ_cons, List.drop_zero]
    repeat still_step
    still_call (HC8.out _)
    repeat still_step
    try refine wpStill_nil ?_
    change wpList _ _ _ _ _ W2.drew
    have hzd : W2.drew.cell? ⟨sb, 31, none⟩ = some _ := hz
    have hzfd : W2.drew.frozen? ⟨sb, 31, none⟩ = false := hzf
    have c0d : W2.drew.cell? ⟨w.heap.size, 0, none⟩ = _ := c0l
    have HF3 := Lib.hid (Five.cells (InsB.drew HF2.out))
    have HNE : Hid (w.heap.size ≠ sb) := HNB
    clear hz hzf c0l c1 c2 c3 c4 hpc
    generalize W2.drew = W3 at *
    have c0e : (W3.setCell ⟨sb, 31, none⟩ (.int .u32 z)).cell? ⟨w.heap.size, 0, none⟩ = _ := (cell_setCell_block W3 sb 31 _ HNB.out).trans c0d
    go_wp2
    go_ret2
    obtain rfl := HZE.out
    exact ⟨ret_pair (by rw [← HQE.out]; rfl), HS3.out, HK3.out⟩
  · have c0l : W2.cell? ⟨w.heap.size, 0, none⟩ = some (.int .i64 31) := c0
    clear c0
    by_cases hxy : s.r S = s.r T
    · have hbq : (s.r S == s.r T) = true := beq_iff_eq.2 hxy
      have hnq : (s.r S != s.r T) = false := by rw [bne, hbq]; rfl
      have HXY := Lib.hid hxy
      clear hxy
      go_wp2
      go_ret2
      exact ⟨ret_pair (by show _ = (if s.r S = s.r T then some _ else none).getD _; rw [if_pos HXY.out]; exact near_eq _ _), HS2.out, HK2.out⟩
    · have hbq : (s.r S == s.r T) = false := beq_eq_false_iff_ne.2 hxy
      have hnq : (s.r S != s.r T) = true := by rw [bne, hbq]; rfl
      have HXY := Lib.hid hxy
      clear hxy
      go_wp2
      go_ret2
      exact ⟨ret_pair (by show _ = (if s.r S = s.r T then some _ else none).getD _; rw [if_neg HXY.out]; rfl), HS2.out, HK2.out⟩
  · have c0l : W2.cell? ⟨w.heap.size, 0, none⟩ = some (.int .i64 32) := c0
    clear c0
    by_cases hxy : s.r S = s.r T
    · have hbq : (s.r S == s.r T) = true := beq_iff_eq.2 hxy
      have hnq : (s.r S != s.r T) = false := by rw [bne, hbq]; rfl
      have HXY := Lib.hid hxy
      clear hxy
      go_wp2
      go_ret2
      exact ⟨ret_pair (by show _ = (if s.r S ≠ s.r T then some _ else none).getD _; rw [if_neg (fun h => h HXY.out)]; rfl), HS2.out, HK2.out⟩
    · have hbq : (s.r S == s.r T) = false := beq_eq_false_iff_ne.2 hxy
      have hnq : (s.r S != s.r T) = true := by rw [bne, hbq]; rfl
      have HXY := Lib.hid hxy
      clear hxy
      go_wp2
      go_ret2
      exact ⟨ret_pair (by show _ = (if s.r S ≠ s.r T then some _ else none).getD _; rw [if_pos HXY.out]; exact near_eq _ _), HS2.out, HK2.out⟩
  · have c0l : W2.cell? ⟨w.heap.size, 0, none⟩ = some (.int .i64 33) := c0
    clear c0
    by_cases hxy : wrap32 (s.r S) ≤ 0
    · have hbq : decide (wrap32 (s.r S) ≤ 0) = true := decide_eq_true hxy
      have HXY := Lib.hid hxy
      clear hxy
      go_wp2_with fail
      refine (HC2.out _).mono ?_
      rintro e w1 ⟨rfl, rfl⟩
      go_wp2
      go_ret2
      exact ⟨ret_pair (by show _ = (if wrap32 (s.r S) ≤ 0 then some _ else none).getD _; rw [if_pos HXY.out]; exact near_eq _ _), HS2.out, HK2.out⟩
    · have hbq : decide (wrap32 (s.r S) ≤ 0) = false := decide_eq_false hxy
      have HXY := Lib.hid hxy
      clear hxy
      go_wp2_with fail
      refine (HC2.out _).mono ?_
      rintro e w1 ⟨rfl, rfl⟩
      go_wp2
      go_ret2
      exact ⟨ret_pair (by show _ = (if wrap32 (s.r S) ≤ 0 then some _ else none).getD _; rw [if_neg (by have := HXY.out; omega)]; rfl), HS2.out, HK2.out⟩
  · have c0l : W2.cell? ⟨w.heap.size, 0, none⟩ = some (.int .i64 34) := c0
    clear c0
    by_cases hxy : 0 < wrap32 (s.r S)
    · have hbq : decide (0 < wrap32 (s.r S)) = true := decide_eq_true hxy
      have HXY := Lib.hid hxy
      clear hxy
      go_wp2_with fail
      refine (HC2.out _).mono ?_
      rintro e w1 ⟨rfl, rfl⟩
      go_wp2
      go_ret2
      exact ⟨ret_pair (by show _ = (if 0 < wrap32 (s.r S) then some _ else none).getD _; rw [if_pos HXY.out]; exact near_eq _ _), HS2.out, HK2.out⟩
    · have hbq : decide (0 < wrap32 (s.r S)) = false := decide_eq_false hxy
      have HXY := Lib.hid hxy
      clear hxy
      go_wp2_with fail
      refine (HC2.out _).mono ?_
      rintro e w1 ⟨rfl, rfl⟩
      go_wp2
      go_ret2
      exact ⟨ret_pair (by show _ = (if 0 < wrap32 (s.r S) then some _ else none).getD _; rw [if_neg (by have := HXY.out; omega)]; rfl), HS2.out, HK2.out⟩
set_option maxHeartbeats 4000000 in
set_option maxRecDepth 100000 in
theorem brD_any {w : World} {sb S T D o : Nat} {s : StF} {m : Int} (ho : brOp o = true) (h : StB w sb s) (hR : RegsOK s.r) (hp : Reg32 s.pc) (hsl : s.slot = false) (hS : S < 32) (hT : T < 32) (hD : D < 32) (m0 : 0 ≤ m) (m1 : m < 67108864) :
    Calls Tryz.prog 103 #[.pointer (some ⟨sb, 0, none⟩), insA o S T D m] w fun e w' => BrTo w sb s (brZ o S T D m s.r s.pc) e w' := by
  have HC1 := Lib.hid (fun wx => plusC_any s.pc 4 hp.1 hp.2 (by decide) (by decide) wx)
  have HC5 := Lib.hid (fun wx => immOf_any o S T D m m0 (by omega) wx)
  have HC2 := Lib.hid (fun wx => signed_val (wideS m) (wideS_ok m).1 (wideS_ok m).2 wx)
  have r1 := wrap32_range (wideS m)
  have HC3 := Lib.hid (fun wx => word_any (4 * wrap32 (wideS m)) (by omega) (by omega) wx)
  have HC4 := Lib.hid (fun wx => plusC_any ((s.pc + 4) % 4294967296) (4 * wrap32 (wideS m) % 4294967296) (r32_mod _).1 (r32_mod _).2 (r32_mod _).1 (r32_mod _).2 wx)
  have HW1 := Lib.hid (show IntKind.i64.wrap ((s.pc + 4 + 4 * wrap32 (wideS m)) % 4294967296) = (s.pc + 4 + 4 * wrap32 (wideS m)) % 4294967296 from IntWalk.i64_in _ ⟨by omega, by omega⟩)
  have HO := Lib.hid ho
  have HMM := Lib.hid (And.intro m0 m1)
  clear ho r1
  have hw : IntKind.i64.wrap (4 * wrap32 (wideS m)) = 4 * wrap32 (wideS m) := by have r1 := wrap32_range (wideS m); exact IntWalk.i64_in _ ⟨by omega, by omega⟩
  have HF0 : InsB (w.alloc (.cells #[.int .i64 (o : Int), .int .i64 (S : Int), .int .i64 (T : Int), .int .i64 (D : Int), .int .u32 m] 61)) w.heap.size o S T D m := Five.new w _ _ _ _ _ _
  have hb := (Below.refl w.heap.size w).alloc (Nat.le_refl _) (.cells #[.int .i64 (o : Int), .int .i64 (S : Int), .int .i64 (T : Int), .int .i64 (D : Int), .int .u32 m] 61)
  have HS0 : StB (w.alloc (.cells #[.int .i64 (o : Int), .int .i64 (S : Int), .int .i64 (T : Int), .int .i64 (D : Int), .int .u32 m] 61)) sb s := h.of_block (hb.block sb h.lt)
  have HK0 := Lib.hid (Kept.of_below (S := fun k => k = sb) hb)
  have HF := Lib.hid HF0
  have HS := Lib.hid HS0
  have HNB : Hid (w.heap.size ≠ sb) := Lib.hid (by have := h.lt; omega)
  have HSZ := Lib.hid (show w.heap.size < (w.alloc (.cells #[.int .i64 (o : Int), .int .i64 (S : Int), .int .i64 (T : Int), .int .i64 (D : Int), .int .u32 m] 61)).heap.size by simp)
  have HN := Lib.hid (And.intro hS (And.intro hT hD))
  have HRR := Lib.hid hR
  have HSL := Lib.hid hsl
  have HP := Lib.hid hp
  have iS : (S : Int) < 32 := by omega
  have iT : (T : Int) < 32 := by omega
  have iD : (D : Int) < 32 := by omega
  have hsc : (w.alloc (.cells #[.int .i64 (o : Int), .int .i64 (S : Int), .int .i64 (T : Int), .int .i64 (D : Int), .int .u32 m] 61)).cell? ⟨sb, 36, none⟩ = some (.bool false) := by have := HS0.cell (show 36 < 43 by decide); rw [this, ← hsl]; rfl
  clear h hb HF0 HS0 hS hT hD hR m0 m1 hsl hp
  go_enter Tryz.func103, Tryz.ntmps103
  go_wp2_with fail
  clear hsc
  generalize w.alloc (.cells #[.int .i64 (o : Int), .int .i64 (S : Int), .int .i64 (T : Int), .int .i64 (D : Int), .int .u32 m] 61) = W at *
  obtain ⟨c0, c1, c2, c3, c4⟩ := Five.cells HF.out
  have hx := HS.out.reg HN.out.1
  go_still (by kernel_rfl)
  change Exit.then _ _ Exit.normal _ W.drew
  have HF1 := Lib.hid (InsB.drew HF.out)
  have HS1 := Lib.hid (StB.drew HS.out)
  have HK1 := Lib.hid (Kept.trans HK0.out (Kept.of_below (Below.refl _ W).drew))
  have HSZ1 : Hid (w.heap.size < W.drew.heap.size) := HSZ
  clear c0 c1 c2 c3 c4 hx HF HS HK0 HSZ
  generalize W.drew = W1 at *
  go_wp2_with fail
  obtain ⟨c0, c1, c2, c3, c4⟩ := Five.cells HF1.out
  have hy := HS1.out.reg HN.out.2.1
  go_still (by kernel_rfl)
  change Exit.then _ _ Exit.normal _ W1.drew
  have HF2 := Lib.hid (InsB.drew HF1.out)
  have HS2 := Lib.hid (StB.drew HS1.out)
  have HK2 := Lib.hid (Kept.trans HK1.out (Kept.of_below (Below.refl _ W1).drew))
  have HSZ2 : Hid (w.heap.size < W1.drew.heap.size) := HSZ1
  clear c0 c1 c2 c3 c4 hy HF1 HS1 HK1 HSZ1
  generalize W1.drew = W2 at *
  obtain ⟨c0, c1, c2, c3, c4⟩ := Five.cells HF2.out
  have hpc : W2.cell? ⟨sb, 34, none⟩ = some (.int .u32 s.pc) := HS2.out.cell (show 34 < 43 by decide)
  go_wp2_with fail
  rename_i K5 hK5
  go_region_held3 (fun w' => (w'.cell? ⟨sb, 34, none⟩ = some (.int .u32 s.pc) ∧ w'.cell? ⟨w.heap.size, 0, none⟩ = some (.int .i64 (o : Int)) ∧ w'.cell? ⟨w.heap.size, 1, none⟩ = some (.int .i64 (S : Int)) ∧ w'.cell? ⟨w.heap.size, 2, none⟩ = some (.int .i64 (T : Int)) ∧ w'.cell? ⟨w.heap.size, 3, none⟩ = some (.int .i64 (D : Int)) ∧ w'.cell? ⟨w.heap.size, 4, none⟩ = some (.int .u32 m) ∧ Below W2.heap.size W2 w'))
    ((go_split_ands; refine ⟨?_, ?_, ?_, ?_, ?_, ?_, ?_⟩ <;> (first | assumption | (rw [hb9.cell (World.block_lt_of_cell? _ _ (by assumption))]; assumption) | exact (Below.refl _ _).drew | exact Below.trans (by assumption) (hb9.mono (Below.size (by assumption))) | (simp [go_sem, *]; done))))
    (first | (go_at_call 134; refine (HC5.out _).mono ?_; rintro e w' ⟨rfl, hb9⟩) | (go_at_call 63; refine (HC1.out _).mono ?_; rintro e w' ⟨rfl, rfl⟩) | (go_at_call 63; refine (HC4.out _).mono ?_; rintro e w' ⟨rfl, rfl⟩) | (go_at_call 93; refine (HC2.out _).mono ?_; rintro e w' ⟨rfl, rfl⟩) | (go_at_call 101; refine (HC3.out _).mono ?_; rintro e w' ⟨rfl, rfl⟩))
  go_split_ands
  have hb6 : Below W2.heap.size W2 w' := by assumption
  refine hK5 _ _ ?_
  rw [HW1.out]
  exact brD_tail HO.out (Lib.hid (show InsB w' w.heap.size o S T D m from (hb6.block _ HSZ2.out).trans HF2.out)) (Lib.hid (show StB w' sb s from Row.of_block (w' := w') HS2.out (hb6.block sb HS2.out.lt)))
    (Lib.hid (HK2.out.trans (Kept.of_below hb6))) HRR.out HP.out HN.out.1 HN.out.2.1 HN.out.2.2 HMM.out.1 HMM.out.2 HNB.out _ _ _ _ _ _ _ _ _ _ _ _ _ _ _ _ _ _ _ _ _ _ _ _ _ _ _ _ _ _ _ _ _ _ _ _ _ _ _ _ _ _ _ _ _ _ _ _ _ _ _ _ _ _ _ _ _ _ _ _ _ _ _ _ _ _ _ _ _ _ _ _ _ _ _ _ _ _ _ _ _ _ _ _ _ _ _ _ _ _ _ _ _ _ _ _ _ _ _ _ _ _ _ _
end Go.Proofs.YtadoaldnjnkhgaaGreatDoor
