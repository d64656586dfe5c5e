/- The walks of ir's CheckOp, out, at any kind. The walk of ir's Check: its loop's test, in a frame of variables. Conditions: as each theorem states. -/
import Derived.Test.YtadoaldnjnkhgaaGreatDoorQ07
import Derived.Test.YtadoaldnjnkhgaaGreatDoorQ08
import Derived.Test.YtadoaldnjnkhgaaGreatDoorQ17
import Derived.Deep.MidRow
import Derived.Deep.RegionHeld3
set_option linter.unusedVariables false
set_option linter.unusedSimpArgs false
namespace Go.Proofs.YtadoaldnjnkhgaaGreatDoor
open Go.RowKit
theorem hasL_ne (k : OpK) : (hasL k).toList.isEmpty = false := by cases k <;> decide +kernel
set_option maxHeartbeats 4000000 in
set_option maxRecDepth 100000 in
theorem irCheckOp_at {many : Nat} {d a n : Nat} {b im mx : Int} (k : OpK) (hg : opG ⟨k, d, a, b, im, n⟩) (w : World) (hn : n < many) (hm : w.cell? ⟨11, 0, none⟩ = some (.int .i64 mx)) :
    Calls Tryz.prog 68 #[.agg #[.string k.lit, .int .i64 (d : Int), .int .i64 (a : Int), .int .i64 b, .int .u32 im, .int .i64 (n : Int)], .int .i64 (many : Int)] w fun e w' => e = .returned .nilIface ∧ Below w.heap.size w w' := by
  have hb' := (Below.refl w.heap.size w).alloc (Nat.le_refl _) (.cells #[.string k.lit, .int .i64 (d : Int), .int .i64 (a : Int), .int .i64 b, .int .u32 im, .int .i64 (n : Int)] 86)
  have HMX := Lib.hid ((hb'.cell (p := ⟨11, 0, none⟩) (World.block_lt_of_cell? _ _ hm)).trans hm)
  have HML := Lib.hid (World.block_lt_of_cell? _ _ hm)
  have HRG := Lib.hid (fun wx (hx : wx.cell? ⟨11, 0, none⟩ = some (.int .i64 mx)) => irRegs_any k hg wx hx)
  have HBY := Lib.hid (fun wx => irBytes_any k hg wx)
  have HBR := Lib.hid (fun wx (hx : wx.cell? ⟨11, 0, none⟩ = some (.int .i64 mx)) => irBare_any k hg wx hx)
  have hbx : Hid ((w.alloc (.cells #[.string k.lit, .int .i64 (d : Int), .int .i64 (a : Int), .int .i64 b, .int .u32 im, .int .i64 (n : Int)] 86)).heap[w.heap.size]? = some (.cells #[.string k.lit, .int .i64 (d : Int), .int .i64 (a : Int), .int .i64 b, .int .u32 im, .int .i64 (n : Int)] 86 (0, 0))) := Lib.hid (heap_alloc_new w _)
  have HSZ : Hid (w.heap.size < (w.alloc (.cells #[.string k.lit, .int .i64 (d : Int), .int .i64 (a : Int), .int .i64 b, .int .u32 im, .int .i64 (n : Int)] 86)).heap.size) := Lib.hid (by simp)
  have HB := Lib.hid hb'
  have HH := Lib.hid (irHas_any k)
  have hne := hasL_ne k
  have hnI : (n : Int) < (many : Int) := by omega
  have hnn : decide ((many : Int) ≤ (n : Int)) = false := decide_eq_false (by omega)
  clear hb' hm hn hg
  generalize k.lit = kl at *
  generalize hasL k = fl at *
  go_enter Tryz.func68, Tryz.ntmps68
  go_wp2_with fail
  refine (HH.out _).mono ?_
  rintro e w1 ⟨rfl, rfl⟩
  go_wp2_with fail
  generalize w.alloc (.cells #[.string kl, .int .i64 (d : Int), .int .i64 (a : Int), .int .i64 b, .int .u32 im, .int .i64 (n : Int)] 86) = W at *
  refine (HRG.out _ HMX.out).mono ?_
  rintro e w1 ⟨rfl, h1⟩
  have HX1 := Lib.hid ((h1.block _ HSZ.out).trans hbx.out)
  obtain ⟨c0, c1, c2, c3, c4, c5⟩ := six_cells HX1.out
  have HB1 := Lib.hid (HB.out.trans (h1.mono HB.out.size))
  have HM1 := Lib.hid ((h1.cell (p := ⟨11, 0, none⟩) (Nat.lt_trans HML.out HSZ.out)).trans HMX.out)
  have HS1 := Lib.hid (Nat.lt_of_lt_of_le HSZ.out h1.size)
  clear h1 hbx HMX HSZ HB
  go_wp2_with fail
  refine (HBY.out _).mono ?_
  rintro e w2 ⟨rfl, h1⟩
  clear c0 c1 c2 c3 c4 c5
  have HX2 := Lib.hid ((h1.block _ HS1.out).trans HX1.out)
  obtain ⟨c0, c1, c2, c3, c4, c5⟩ := six_cells HX2.out
  have HB2 := Lib.hid (HB1.out.trans (h1.mono HB1.out.size))
  have HM2 := Lib.hid ((h1.cell (p := ⟨11, 0, none⟩) (Nat.lt_trans HML.out HS1.out)).trans HM1.out)
  clear h1 HX1 HM1 HB1 HS1
  go_wp2_with fail
  refine (HBR.out _ HM2.out).mono ?_
  rintro e w3 ⟨rfl, h1⟩
  have HB3 := Lib.hid (HB2.out.trans (h1.mono HB2.out.size))
  clear c0 c1 c2 c3 c4 c5 h1
  go_wp2
  go_ret
  exact ⟨rfl, HB3.out⟩
abbrev opV (o : OpN) : Value := opA (bsl o.kind.text) o.d o.a o.b o.imm o.at'
theorem irCheckOp_any {o : OpN} {many : Nat} {mx : Int} (hg : opG o) (hn : o.at' < many) (w : World) (hm : w.cell? ⟨11, 0, none⟩ = some (.int .i64 mx)) :
    Calls Tryz.prog 68 #[opV o, .int .i64 (many : Int)] w fun e w' => e = .returned .nilIface ∧ Below w.heap.size w w' := by
  rw [opV, lit_text]
  exact irCheckOp_at o.kind hg w hn hm
theorem irOut_any (o : OpN) (w : World) : Calls Tryz.prog 67 #[opV o] w fun e w' => e = .returned (.bool (outK o.kind)) ∧ Below w.heap.size w w' := by
  obtain ⟨k, d, a, b, im, n⟩ := o
  rw [opV, lit_text]
  have HB := Lib.hid ((Below.refl w.heap.size w).alloc (Nat.le_refl _) (.cells #[.string k.lit, .int .i64 (d : Int), .int .i64 (a : Int), .int .i64 b, .int .u32 im, .int .i64 (n : Int)] 86))
  cases k <;> simp only [OpK.lit, outK] at HB ⊢ <;> (go_enter Tryz.func67, Tryz.ntmps67; go_wp2; go_ret; exact ⟨rfl, HB.out⟩)
set_option maxHeartbeats 4000000 in
set_option maxRecDepth 100000 in
theorem irStores_any {w : World} {g cap : Nat} {ops : List OpN} (h : OpsAt w g ops) (hl : ops.length ≤ 100) :
    Calls Tryz.prog 66 #[.slice (some ⟨g, 0, none⟩) ops.length cap] w fun e w' => e = .returned (.int .i64 (storesO ops : Int)) ∧ Below w.heap.size w w' := by
  have HO := Lib.hid h
  have hl2 : (ops.length : Int) ≤ 100 := by omega
  have HL := Lib.hid hl
  clear h hl
  go_enter Tryz.func66, Tryz.ntmps66
  go_wp2_with fail
  go_loopw [3, 8] (fun s i wr => ∃ j : Nat, j ≤ ops.length ∧ s = .int .i64 (storesO (ops.take j) : Int) ∧ i = .int .i64 (j : Int) ∧ Hid (Below w.heap.size w wr)) (fun _ i _ => ops.length - (intOf i).toNat)
  case atStart => exact ⟨0, Nat.zero_le _, rfl, rfl, Lib.hid (Below.refl _ _)⟩
  case round =>
    obtain ⟨j, hj, rfl, rfl, HB⟩ := hrel
    by_cases hlt : j < ops.length
    · obtain ⟨c0, c1, c2, c3, c4, c5⟩ := (HO.out.below HB.out HO.out.lt).cells j hlt
      have hjI : (j : Int) < (ops.length : Int) := by omega
      have hs0 : storesO (ops.take j) ≤ 100 := by
        have h1 : storesO (ops.take j) ≤ (ops.take j).length := List.length_filter_le _ _
        have h2 : (ops.take j).length ≤ ops.length := by rw [List.length_take]; omega
        have := HL.out
        omega
      have hs1 : (storesO (ops.take j) : Int) ≤ 100 := by omega
      have hs2 : (0 : Int) ≤ (storesO (ops.take j) : Int) := by omega
      have HT := Lib.hid (storesO_take ops j hlt)
      have HJ := Lib.hid hlt
      clear hs0
      by_cases hk : (ops[j]'hlt).kind = .store
      · have HT2 : Hid ((storesO (ops.take (j + 1)) : Int) = (storesO (ops.take j) : Int) + 1) := by
          show _ = _
          have := HT.out
          rw [hk, if_pos (show storeK OpK.store = true from rfl)] at this
          omega
        rw [hk] at c0
        have c0' : wr.cell? ⟨g, j * 6, none⟩ = some (.string ⟨#[115, 116, 111, 114, 101]⟩) := c0
        clear c0 hk HT
        generalize storesO (ops.take j) = s0 at *
        generalize (ops[j]'hlt).d = q1 at *
        generalize (ops[j]'hlt).a = q2 at *
        generalize (ops[j]'hlt).b = q3 at *
        generalize (ops[j]'hlt).imm = q4 at *
        generalize (ops[j]'hlt).at' = q5 at *
        have HB2 := Lib.hid (fun o => HB.out.alloc HB.out.size o)
        go_wp2
        go_roundw
        case rel => exact ⟨j + 1, HJ.out, by rw [HT2.out], by go_num, Lib.hid (HB2.out _)⟩
        case measure => have := HJ.out; go_light; simp [intOf]; omega
      · have HT2 : Hid ((storesO (ops.take (j + 1)) : Int) = (storesO (ops.take j) : Int)) := by
          show _ = _
          have := HT.out
          rw [if_neg (by cases hh : (ops[j]'hlt).kind <;> first | exact absurd hh hk | decide)] at this
          omega
        have n1 := text_ne hk
        clear hk HT
        generalize bsl (ops[j]'hlt).kind.text = kt at *
        generalize storesO (ops.take j) = s0 at *
        generalize (ops[j]'hlt).d = q1 at *
        generalize (ops[j]'hlt).a = q2 at *
        generalize (ops[j]'hlt).b = q3 at *
        generalize (ops[j]'hlt).imm = q4 at *
        generalize (ops[j]'hlt).at' = q5 at *
        have HB2 := Lib.hid (fun o => HB.out.alloc HB.out.size o)
        go_wp2
        go_roundw
        case rel => exact ⟨j + 1, HJ.out, by rw [HT2.out], by go_num, Lib.hid (HB2.out _)⟩
        case measure => have := HJ.out; go_light; simp [intOf]; omega
    · obtain rfl : j = ops.length := by omega
      have HE : Hid (ops.take ops.length = ops) := Lib.hid (List.take_length)
      go_wp2
      go_ret
      exact ⟨by rw [HE.out]; rfl, HB.out⟩
end Go.Proofs.YtadoaldnjnkhgaaGreatDoor
namespace Go.Proofs.YtadoaldnjnkhgaaGreatDoor
open Go.RowKit List
def regAtC (n : Nat) : Code → Option Code
  | .region k ops m => if k == n then some (.region k ops m) else none
  | .seq a b => match regAtC n a with
    | some c => some c
    | none => regAtC n b
  | .block _ c => regAtC n c
  | .cond _ a b => match regAtC n a with
    | some c => some c
    | none => regAtC n b
  | .loop c => regAtC n c
  | _ => none
noncomputable def regC (n : Nat) (f : Func) : Code := ((f.body.bind (regAtC n)).getD .skip)
section
variable {P : Program} {md : Region.Mode} {ops : Array Oper} {S : World → Prop} {Q : Exit → Act → World → Prop}
theorem tkU (i : Nat) {oi : Oper} {fuel : Nat} {listed : Array Bool} {a : Act} {w : World} (hS : S w) (h : wpAnyH P md ops Q S fuel (listed.setIfInBounds i true) (a.put oi.dst undef) w) (hi : ops[i]? = some oi := by rfl)
    (hs : Region.noSelect ops = true := by kernel_rfl) (hf : Region.free md ops listed i = true := by kernel_rfl) (hr : (Region.ready md ops listed).contains i = true := by kernel_rfl)
    (hQ : ∀ c a w, Q (.panic c) (a.put oi.dst undef) w → Q (.panic c) a w := by exact fun _ _ _ hx => hx) (hw : Region.wanted oi (yielded ops a.tmps) = false := by kernel_rfl) : wpAnyH P md ops Q S (fuel + 1) listed a w :=
  wpAnyH_take hi hs hf hr hQ (Or.inr ⟨hw, rfl⟩) hS h
theorem tkW (i : Nat) {oi : Oper} {v : Value} {fuel : Nat} {listed : Array Bool} {a : Act} {w : World} (hy : ∀ w, S w → (execOp a.eval oi).run P w = .ok (.value v) w) (hS : S w) (h : wpAnyH P md ops Q S fuel (listed.setIfInBounds i true) (a.put oi.dst v) w) (hi : ops[i]? = some oi := by rfl)
    (hs : Region.noSelect ops = true := by kernel_rfl) (hf : Region.free md ops listed i = true := by kernel_rfl) (hr : (Region.ready md ops listed).contains i = true := by kernel_rfl)
    (hQ : ∀ c a w, Q (.panic c) (a.put oi.dst v) w → Q (.panic c) a w := by exact fun _ _ _ hx => hx) (hw : Region.wanted oi (yielded ops a.tmps) = true := by kernel_rfl) : wpAnyH P md ops Q S (fuel + 1) listed a w :=
  wpAnyH_take hi hs hf hr hQ (Or.inl ⟨hw, hy⟩) hS h
end
set_option maxHeartbeats 4000000 in
set_option maxRecDepth 100000 in
theorem ck_first_mid {w : World} {K : Act → World → Prop} {cb ob n g cap m j otm : Nat} {kt : ByteArray} {od1 oa1 ot1 : Nat} {ob1 oi1 : Int} (v0 v2 v7 v8 v9 v10 v11 v12 v13 v14 v15 v16 v17 v18 v19 v20 v21 v22 v23 v24 v25 v26 v27 v28 v29 v30 v31 v32 v33 v34 v35 v36 v37 v38 v39 v40 v41 v42 v43 v44 v45 v46 v47 v48 v49 v50 v51 v52 v53 v54 v55 v56 v57 v58 v59 v60 v61 v62 v63 v64 v65 v66 v67 v68 v69 v70 v71 v72 v73 v74 v75 v76 v77 v78 v79 v80 v81 v82 v83 v84 v85 v86 v87 v88 v89 v90 v91 v92 : Value)
    (e0 : w.cell? ⟨ob, 0, none⟩ = some (.string kt)) (e1 : w.cell? ⟨ob, 1, none⟩ = some (.int .i64 (od1 : Int))) (e2 : w.cell? ⟨ob, 2, none⟩ = some (.int .i64 (oa1 : Int))) (e3 : w.cell? ⟨ob, 3, none⟩ = some (.int .i64 ob1)) (e4 : w.cell? ⟨ob, 4, none⟩ = some (.int .u32 oi1)) (e5 : w.cell? ⟨ob, 5, none⟩ = some (.int .i64 (ot1 : Int)))
    (HI : Hid (∀ wx, Calls Tryz.prog 67 #[opA kt od1 oa1 ob1 oi1 ot1] wx fun e w' => e = .returned (.bool false) ∧ Below wx.heap.size wx w'))
    (hQ : Hid (∀ (u56 u57 u58 u59 u60 u61 u62 u63 u64 u65 u66 u67 u68 u69 u70 u71 u72 u73 u74 u75 u76 u77 u78 u79 u80 u81 u82 : Value) w', Below w.heap.size w w' → K ⟨#[v0, .pointer (some ⟨cb, 0, none⟩), v2, .int .i64 (n : Int), .int .i64 (0), .pointer (some ⟨ob, 0, none⟩), .nilIface, v7, v8, v9, v10, v11, v12, v13, v14, v15, v16, v17, v18, v19, v20, v21, v22, v23, v24, v25, v26, v27, v28, v29, v30, v31, v32, v33, v34, v35, v36, v37, v38, v39, v40, v41, v42, v43, v44, v45, v46, v47, v48, v49, v50, v51, v52, v53, v54, v55, u56, u57, u58, u59, u60, u61, u62, u63, u64, u65, u66, u67, u68, u69, u70, u71, u72, u73, u74, u75, u76, u77, u78, u79, u80, u81, u82, .bool false, v84, v85, v86, v87, v88, v89, v90, v91, v92], []⟩ w')) :
    Code.wp Tryz.prog (regC 12 Tryz.f36) (Exit.then K (fun _ _ _ => False)) ⟨#[v0, .pointer (some ⟨cb, 0, none⟩), v2, .int .i64 (n : Int), .int .i64 (0), .pointer (some ⟨ob, 0, none⟩), .nilIface, v7, v8, v9, v10, v11, v12, v13, v14, v15, v16, v17, v18, v19, v20, v21, v22, v23, v24, v25, v26, v27, v28, v29, v30, v31, v32, v33, v34, v35, v36, v37, v38, v39, v40, v41, v42, v43, v44, v45, v46, v47, v48, v49, v50, v51, v52, v53, v54, v55, v56, v57, v58, v59, v60, v61, v62, v63, v64, v65, v66, v67, v68, v69, v70, v71, v72, v73, v74, v75, v76, v77, v78, v79, v80, v81, v82, v83, v84, v85, v86, v87, v88, v89, v90, v91, v92], []⟩ w := by
  conv => arg 2; whnf
  refine wp_region_held_drew (S := fun w' => (w'.cell? ⟨ob, 0, none⟩ = some (.string kt) ∧ w'.cell? ⟨ob, 1, none⟩ = some (.int .i64 (od1 : Int)) ∧ w'.cell? ⟨ob, 2, none⟩ = some (.int .i64 (oa1 : Int)) ∧ w'.cell? ⟨ob, 3, none⟩ = some (.int .i64 ob1) ∧ w'.cell? ⟨ob, 4, none⟩ = some (.int .u32 oi1) ∧ w'.cell? ⟨ob, 5, none⟩ = some (.int .i64 (ot1 : Int)) ∧ Below w.heap.size w w')) (by kernel_rfl) ?_ (fun hHeld => ?_)
  · exact ⟨e0, e1, e2, e3, e4, e5, (Below.refl _ _).drew⟩
  refine tkW 0 (v := ?_) ?_ (by assumption) ?_
  rotate_left
  · (intro wq hSq; (try dsimp only at hSq); go_simp; try with_reducible rfl)
  (try simp only [getElem_toArray, getElem_cons_succ, getElem_cons_zero, Act.put, setIfInBounds_toArray, set_cons_zero, set_cons_succ])
  refine tkW 1 (v := ?_) ?_ (by assumption) ?_
  rotate_left
  · (intro wq hSq; (try dsimp only at hSq); go_simp; try with_reducible rfl)
  (try simp only [getElem_toArray, getElem_cons_succ, getElem_cons_zero, Act.put, setIfInBounds_toArray, set_cons_zero, set_cons_succ])
  refine tkW 2 (v := ?_) ?_ (by assumption) ?_
  rotate_left
  · (intro wq hSq; (try dsimp only at hSq); go_simp; try with_reducible rfl)
  (try simp only [getElem_toArray, getElem_cons_succ, getElem_cons_zero, Act.put, setIfInBounds_toArray, set_cons_zero, set_cons_succ])
  refine tkW 3 (v := ?_) ?_ (by assumption) ?_
  rotate_left
  · (intro wq hSq; (try dsimp only at hSq); go_simp; try with_reducible rfl)
  (try simp only [getElem_toArray, getElem_cons_succ, getElem_cons_zero, Act.put, setIfInBounds_toArray, set_cons_zero, set_cons_succ])
  refine tkW 4 (v := ?_) ?_ (by assumption) ?_
  rotate_left
  · (intro wq hSq; (try dsimp only at hSq); go_simp; try with_reducible rfl)
  (try simp only [getElem_toArray, getElem_cons_succ, getElem_cons_zero, Act.put, setIfInBounds_toArray, set_cons_zero, set_cons_succ])
  refine tkW 5 (v := ?_) ?_ (by assumption) ?_
  rotate_left
  · (intro wq hSq; (try dsimp only at hSq); go_simp; try with_reducible rfl)
  (try simp only [getElem_toArray, getElem_cons_succ, getElem_cons_zero, Act.put, setIfInBounds_toArray, set_cons_zero, set_cons_succ])
  refine tkU 6 (by assumption) ?_
  (try simp only [getElem_toArray, getElem_cons_succ, getElem_cons_zero, Act.put, setIfInBounds_toArray, set_cons_zero, set_cons_succ])
  refine tkU 7 (by assumption) ?_
  (try simp only [getElem_toArray, getElem_cons_succ, getElem_cons_zero, Act.put, setIfInBounds_toArray, set_cons_zero, set_cons_succ])
  refine tkU 8 (by assumption) ?_
  (try simp only [getElem_toArray, getElem_cons_succ, getElem_cons_zero, Act.put, setIfInBounds_toArray, set_cons_zero, set_cons_succ])
  refine tkU 9 (by assumption) ?_
  (try simp only [getElem_toArray, getElem_cons_succ, getElem_cons_zero, Act.put, setIfInBounds_toArray, set_cons_zero, set_cons_succ])
  refine tkU 10 (by assumption) ?_
  (try simp only [getElem_toArray, getElem_cons_succ, getElem_cons_zero, Act.put, setIfInBounds_toArray, set_cons_zero, set_cons_succ])
  refine tkU 11 (by assumption) ?_
  (try simp only [getElem_toArray, getElem_cons_succ, getElem_cons_zero, Act.put, setIfInBounds_toArray, set_cons_zero, set_cons_succ])
  refine tkU 12 (by assumption) ?_
  (try simp only [getElem_toArray, getElem_cons_succ, getElem_cons_zero, Act.put, setIfInBounds_toArray, set_cons_zero, set_cons_succ])
  refine tkU 13 (by assumption) ?_
  (try simp only [getElem_toArray, getElem_cons_succ, getElem_cons_zero, Act.put, setIfInBounds_toArray, set_cons_zero, set_cons_succ])
  refine tkU 14 (by assumption) ?_
  (try simp only [getElem_toArray, getElem_cons_succ, getElem_cons_zero, Act.put, setIfInBounds_toArray, set_cons_zero, set_cons_succ])
  refine tkU 15 (by assumption) ?_
  (try simp only [getElem_toArray, getElem_cons_succ, getElem_cons_zero, Act.put, setIfInBounds_toArray, set_cons_zero, set_cons_succ])
  refine tkW 16 (v := ?_) ?_ (by assumption) ?_
  rotate_left
  · (intro wq hSq; (try dsimp only at hSq); go_simp; try with_reducible rfl)
  (try simp only [getElem_toArray, getElem_cons_succ, getElem_cons_zero, Act.put, setIfInBounds_toArray, set_cons_zero, set_cons_succ])
  refine tkW 17 (v := ?_) ?_ (by assumption) ?_
  rotate_left
  · (intro wq hSq; (try dsimp only at hSq); go_simp; try with_reducible rfl)
  (try simp only [getElem_toArray, getElem_cons_succ, getElem_cons_zero, Act.put, setIfInBounds_toArray, set_cons_zero, set_cons_succ])
  refine tkW 18 (v := ?_) ?_ (by assumption) ?_
  rotate_left
  · (intro wq hSq; (try dsimp only at hSq); go_simp; try with_reducible rfl)
  (try simp only [getElem_toArray, getElem_cons_succ, getElem_cons_zero, Act.put, setIfInBounds_toArray, set_cons_zero, set_cons_succ])
  refine wpAnyH_ready (rs := [19]) (by kernel_rfl) (by simp) ?_
  refine AllReadyH.cons rfl (fun K9 hK9 => ?_) AllReadyH.nil
  go_simp
  refine (HI.out _).mono ?_
  rintro e w2 ⟨rfl, hb9⟩
  refine hK9.out _ _ ?_ (fun hHeld2 => ?_)
  · (try dsimp only at hHeld)
    go_split_ands
    refine ⟨?_, ?_, ?_, ?_, ?_, ?_, ?_⟩ <;> (first | assumption | (rw [hb9.cell (World.block_lt_of_cell? _ _ (by assumption))]; assumption) | exact Below.trans (by assumption) (hb9.mono (Below.size (by assumption))))
  clear hK9 K9
  (try simp only [getElem_toArray, getElem_cons_succ, getElem_cons_zero, Act.put, setIfInBounds_toArray, set_cons_zero, set_cons_succ])
  refine tkW 20 (v := ?_) ?_ (by assumption) ?_
  rotate_left
  · (intro wq hSq; (try dsimp only at hSq); go_simp; try with_reducible rfl)
  (try simp only [getElem_toArray, getElem_cons_succ, getElem_cons_zero, Act.put, setIfInBounds_toArray, set_cons_zero, set_cons_succ])
  refine tkU 21 (by assumption) ?_
  (try simp only [getElem_toArray, getElem_cons_succ, getElem_cons_zero, Act.put, setIfInBounds_toArray, set_cons_zero, set_cons_succ])
  refine tkU 22 (by assumption) ?_
  (try simp only [getElem_toArray, getElem_cons_succ, getElem_cons_zero, Act.put, setIfInBounds_toArray, set_cons_zero, set_cons_succ])
  refine tkU 23 (by assumption) ?_
  (try simp only [getElem_toArray, getElem_cons_succ, getElem_cons_zero, Act.put, setIfInBounds_toArray, set_cons_zero, set_cons_succ])
  refine tkU 24 (by assumption) ?_
  (try simp only [getElem_toArray, getElem_cons_succ, getElem_cons_zero, Act.put, setIfInBounds_toArray, set_cons_zero, set_cons_succ])
  refine tkW 25 (v := ?_) ?_ (by assumption) ?_
  rotate_left
  · (intro wq hSq; (try dsimp only at hSq); go_simp; try with_reducible rfl)
  (try simp only [getElem_toArray, getElem_cons_succ, getElem_cons_zero, Act.put, setIfInBounds_toArray, set_cons_zero, set_cons_succ])
  refine tkW 26 (v := ?_) ?_ (by assumption) ?_
  rotate_left
  · (intro wq hSq; (try dsimp only at hSq); go_simp; try with_reducible rfl)
  (try simp only [getElem_toArray, getElem_cons_succ, getElem_cons_zero, Act.put, setIfInBounds_toArray, set_cons_zero, set_cons_succ])
  refine tkW 27 (v := ?_) ?_ (by assumption) ?_
  rotate_left
  · (intro wq hSq; (try dsimp only at hSq); go_simp; try with_reducible rfl)
  (try simp only [getElem_toArray, getElem_cons_succ, getElem_cons_zero, Act.put, setIfInBounds_toArray, set_cons_zero, set_cons_succ])
  refine wpAnyH_done (by kernel_rfl) ?_ _
  exact hQ.out _ _ _ _ _ _ _ _ _ _ _ _ _ _ _ _ _ _ _ _ _ _ _ _ _ _ _ _ hHeld2.2.2.2.2.2.2
set_option maxHeartbeats 4000000 in
set_option maxRecDepth 100000 in
theorem ck_first_last {w : World} {K : Act → World → Prop} {cb ob n g cap m j otm : Nat} {kt : ByteArray} {od1 oa1 ot1 : Nat} {ob1 oi1 : Int} (v0 v2 v7 v8 v9 v10 v11 v12 v13 v14 v15 v16 v17 v18 v19 v20 v21 v22 v23 v24 v25 v26 v27 v28 v29 v30 v31 v32 v33 v34 v35 v36 v37 v38 v39 v40 v41 v42 v43 v44 v45 v46 v47 v48 v49 v50 v51 v52 v53 v54 v55 v56 v57 v58 v59 v60 v61 v62 v63 v64 v65 v66 v67 v68 v69 v70 v71 v72 v73 v74 v75 v76 v77 v78 v79 v80 v81 v82 v83 v84 v85 v86 v87 v88 v89 v90 v91 v92 : Value)
    (e0 : w.cell? ⟨ob, 0, none⟩ = some (.string kt)) (e1 : w.cell? ⟨ob, 1, none⟩ = some (.int .i64 (od1 : Int))) (e2 : w.cell? ⟨ob, 2, none⟩ = some (.int .i64 (oa1 : Int))) (e3 : w.cell? ⟨ob, 3, none⟩ = some (.int .i64 ob1)) (e4 : w.cell? ⟨ob, 4, none⟩ = some (.int .u32 oi1)) (e5 : w.cell? ⟨ob, 5, none⟩ = some (.int .i64 (ot1 : Int)))
    (hln : (n : Int) - 1 = 0) (HI : Hid (∀ wx, Calls Tryz.prog 67 #[opA kt od1 oa1 ob1 oi1 ot1] wx fun e w' => e = .returned (.bool true) ∧ Below wx.heap.size wx w'))
    (hQ : Hid (∀ (u56 u57 u58 u59 u60 u61 u62 u63 u64 u65 u66 u67 u68 u69 u70 u71 u72 u73 u74 u75 u76 u77 u78 u79 u80 u81 u82 : Value) w', Below w.heap.size w w' → K ⟨#[v0, .pointer (some ⟨cb, 0, none⟩), v2, .int .i64 (n : Int), .int .i64 (0), .pointer (some ⟨ob, 0, none⟩), .nilIface, v7, v8, v9, v10, v11, v12, v13, v14, v15, v16, v17, v18, v19, v20, v21, v22, v23, v24, v25, v26, v27, v28, v29, v30, v31, v32, v33, v34, v35, v36, v37, v38, v39, v40, v41, v42, v43, v44, v45, v46, v47, v48, v49, v50, v51, v52, v53, v54, v55, u56, u57, u58, u59, u60, u61, u62, u63, u64, u65, u66, u67, u68, u69, u70, u71, u72, u73, u74, u75, u76, u77, u78, u79, u80, u81, u82, .bool false, v84, v85, v86, v87, v88, v89, v90, v91, v92], []⟩ w')) :
    Code.wp Tryz.prog (regC 12 Tryz.f36) (Exit.then K (fun _ _ _ => False)) ⟨#[v0, .pointer (some ⟨cb, 0, none⟩), v2, .int .i64 (n : Int), .int .i64 (0), .pointer (some ⟨ob, 0, none⟩), .nilIface, v7, v8, v9, v10, v11, v12, v13, v14, v15, v16, v17, v18, v19, v20, v21, v22, v23, v24, v25, v26, v27, v28, v29, v30, v31, v32, v33, v34, v35, v36, v37, v38, v39, v40, v41, v42, v43, v44, v45, v46, v47, v48, v49, v50, v51, v52, v53, v54, v55, v56, v57, v58, v59, v60, v61, v62, v63, v64, v65, v66, v67, v68, v69, v70, v71, v72, v73, v74, v75, v76, v77, v78, v79, v80, v81, v82, v83, v84, v85, v86, v87, v88, v89, v90, v91, v92], []⟩ w := by
  have hl2 : IntKind.i64.wrap ((n : Int) - 1) = 0 := by rw [hln]; rfl
  have hl3 : wrap64 ((n : Int) - 1) = 0 := by rw [hln]; exact IntWalk.wrap64_in _ ⟨by decide, by decide⟩
  conv => arg 2; whnf
  refine wp_region_held_drew (S := fun w' => (w'.cell? ⟨ob, 0, none⟩ = some (.string kt) ∧ w'.cell? ⟨ob, 1, none⟩ = some (.int .i64 (od1 : Int)) ∧ w'.cell? ⟨ob, 2, none⟩ = some (.int .i64 (oa1 : Int)) ∧ w'.cell? ⟨ob, 3, none⟩ = some (.int .i64 ob1) ∧ w'.cell? ⟨ob, 4, none⟩ = some (.int .u32 oi1) ∧ w'.cell? ⟨ob, 5, none⟩ = some (.int .i64 (ot1 : Int)) ∧ Below w.heap.size w w')) (by kernel_rfl) ?_ (fun hHeld => ?_)
  · exact ⟨e0, e1, e2, e3, e4, e5, (Below.refl _ _).drew⟩
  refine tkW 0 (v := ?_) ?_ (by assumption) ?_
  rotate_left
  · (intro wq hSq; (try dsimp only at hSq); go_simp; try with_reducible rfl)
  (try simp only [getElem_toArray, getElem_cons_succ, getElem_cons_zero, Act.put, setIfInBounds_toArray, set_cons_zero, set_cons_succ])
  refine tkW 1 (v := ?_) ?_ (by assumption) ?_
  rotate_left
  · (intro wq hSq; (try dsimp only at hSq); go_simp; try with_reducible rfl)
  (try simp only [getElem_toArray, getElem_cons_succ, getElem_cons_zero, Act.put, setIfInBounds_toArray, set_cons_zero, set_cons_succ])
  refine tkW 2 (v := ?_) ?_ (by assumption) ?_
  rotate_left
  · (intro wq hSq; (try dsimp only at hSq); go_simp; try with_reducible rfl)
  (try simp only [getElem_toArray, getElem_cons_succ, getElem_cons_zero, Act.put, setIfInBounds_toArray, set_cons_zero, set_cons_succ])
  refine tkW 3 (v := ?_) ?_ (by assumption) ?_
  rotate_left
  · (intro wq hSq; (try dsimp only at hSq); go_simp; try with_reducible rfl)
  (try simp only [getElem_toArray, getElem_cons_succ, getElem_cons_zero, Act.put, setIfInBounds_toArray, set_cons_zero, set_cons_succ])
  refine tkW 4 (v := ?_) ?_ (by assumption) ?_
  rotate_left
  · (intro wq hSq; (try dsimp only at hSq); go_simp; try with_reducible rfl)
  (try simp only [getElem_toArray, getElem_cons_succ, getElem_cons_zero, Act.put, setIfInBounds_toArray, set_cons_zero, set_cons_succ])
  refine tkW 5 (v := ?_) ?_ (by assumption) ?_
  rotate_left
  · (intro wq hSq; (try dsimp only at hSq); go_simp; try with_reducible rfl)
  (try simp only [getElem_toArray, getElem_cons_succ, getElem_cons_zero, Act.put, setIfInBounds_toArray, set_cons_zero, set_cons_succ])
  refine tkU 6 (by assumption) ?_
  (try simp only [getElem_toArray, getElem_cons_succ, getElem_cons_zero, Act.put, setIfInBounds_toArray, set_cons_zero, set_cons_succ])
  refine tkU 7 (by assumption) ?_
  (try simp only [getElem_toArray, getElem_cons_succ, getElem_cons_zero, Act.put, setIfInBounds_toArray, set_cons_zero, set_cons_succ])
  refine tkU 8 (by assumption) ?_
  (try simp only [getElem_toArray, getElem_cons_succ, getElem_cons_zero, Act.put, setIfInBounds_toArray, set_cons_zero, set_cons_succ])
  refine tkU 9 (by assumption) ?_
  (try simp only [getElem_toArray, getElem_cons_succ, getElem_cons_zero, Act.put, setIfInBounds_toArray, set_cons_zero, set_cons_succ])
  refine tkU 10 (by assumption) ?_
  (try simp only [getElem_toArray, getElem_cons_succ, getElem_cons_zero, Act.put, setIfInBounds_toArray, set_cons_zero, set_cons_succ])
  refine tkU 11 (by assumption) ?_
  (try simp only [getElem_toArray, getElem_cons_succ, getElem_cons_zero, Act.put, setIfInBounds_toArray, set_cons_zero, set_cons_succ])
  refine tkU 12 (by assumption) ?_
  (try simp only [getElem_toArray, getElem_cons_succ, getElem_cons_zero, Act.put, setIfInBounds_toArray, set_cons_zero, set_cons_succ])
  refine tkU 13 (by assumption) ?_
  (try simp only [getElem_toArray, getElem_cons_succ, getElem_cons_zero, Act.put, setIfInBounds_toArray, set_cons_zero, set_cons_succ])
  refine tkU 14 (by assumption) ?_
  (try simp only [getElem_toArray, getElem_cons_succ, getElem_cons_zero, Act.put, setIfInBounds_toArray, set_cons_zero, set_cons_succ])
  refine tkU 15 (by assumption) ?_
  (try simp only [getElem_toArray, getElem_cons_succ, getElem_cons_zero, Act.put, setIfInBounds_toArray, set_cons_zero, set_cons_succ])
  refine tkW 16 (v := ?_) ?_ (by assumption) ?_
  rotate_left
  · (intro wq hSq; (try dsimp only at hSq); go_simp; try with_reducible rfl)
  (try simp only [getElem_toArray, getElem_cons_succ, getElem_cons_zero, Act.put, setIfInBounds_toArray, set_cons_zero, set_cons_succ])
  refine tkW 17 (v := ?_) ?_ (by assumption) ?_
  rotate_left
  · (intro wq hSq; (try dsimp only at hSq); go_simp; try with_reducible rfl)
  (try simp only [getElem_toArray, getElem_cons_succ, getElem_cons_zero, Act.put, setIfInBounds_toArray, set_cons_zero, set_cons_succ])
  refine tkW 18 (v := ?_) ?_ (by assumption) ?_
  rotate_left
  · (intro wq hSq; (try dsimp only at hSq); go_simp; try with_reducible rfl)
  (try simp only [getElem_toArray, getElem_cons_succ, getElem_cons_zero, Act.put, setIfInBounds_toArray, set_cons_zero, set_cons_succ])
  refine wpAnyH_ready (rs := [19]) (by kernel_rfl) (by simp) ?_
  refine AllReadyH.cons rfl (fun K9 hK9 => ?_) AllReadyH.nil
  go_simp
  refine (HI.out _).mono ?_
  rintro e w2 ⟨rfl, hb9⟩
  refine hK9.out _ _ ?_ (fun hHeld2 => ?_)
  · (try dsimp only at hHeld)
    go_split_ands
    refine ⟨?_, ?_, ?_, ?_, ?_, ?_, ?_⟩ <;> (first | assumption | (rw [hb9.cell (World.block_lt_of_cell? _ _ (by assumption))]; assumption) | exact Below.trans (by assumption) (hb9.mono (Below.size (by assumption))))
  clear hK9 K9
  (try simp only [getElem_toArray, getElem_cons_succ, getElem_cons_zero, Act.put, setIfInBounds_toArray, set_cons_zero, set_cons_succ])
  refine tkW 20 (v := ?_) ?_ (by assumption) ?_
  rotate_left
  · (intro wq hSq; (try dsimp only at hSq); go_simp; try with_reducible rfl)
  (try simp only [getElem_toArray, getElem_cons_succ, getElem_cons_zero, Act.put, setIfInBounds_toArray, set_cons_zero, set_cons_succ])
  refine tkW 21 (v := ?_) ?_ (by assumption) ?_
  rotate_left
  · (intro wq hSq; (try dsimp only at hSq); go_simp; try with_reducible rfl)
  (try simp only [getElem_toArray, getElem_cons_succ, getElem_cons_zero, Act.put, setIfInBounds_toArray, set_cons_zero, set_cons_succ])
  refine tkW 22 (v := ?_) ?_ (by assumption) ?_
  rotate_left
  · (intro wq hSq; (try dsimp only at hSq); go_simp; try with_reducible rfl)
  (try simp only [getElem_toArray, getElem_cons_succ, getElem_cons_zero, Act.put, setIfInBounds_toArray, set_cons_zero, set_cons_succ])
  refine tkW 23 (v := ?_) ?_ (by assumption) ?_
  rotate_left
  · (intro wq hSq; (try dsimp only at hSq); go_simp; try with_reducible rfl)
  (try simp only [getElem_toArray, getElem_cons_succ, getElem_cons_zero, Act.put, setIfInBounds_toArray, set_cons_zero, set_cons_succ])
  refine tkW 24 (v := ?_) ?_ (by assumption) ?_
  rotate_left
  · (intro wq hSq; (try dsimp only at hSq); go_simp; try with_reducible rfl)
  (try simp only [getElem_toArray, getElem_cons_succ, getElem_cons_zero, Act.put, setIfInBounds_toArray, set_cons_zero, set_cons_succ])
  refine tkW 25 (v := ?_) ?_ (by assumption) ?_
  rotate_left
  · (intro wq hSq; (try dsimp only at hSq); go_simp; try with_reducible rfl)
  (try simp only [getElem_toArray, getElem_cons_succ, getElem_cons_zero, Act.put, setIfInBounds_toArray, set_cons_zero, set_cons_succ])
  refine tkW 26 (v := ?_) ?_ (by assumption) ?_
  rotate_left
  · (intro wq hSq; (try dsimp only at hSq); go_simp; try with_reducible rfl)
  (try simp only [getElem_toArray, getElem_cons_succ, getElem_cons_zero, Act.put, setIfInBounds_toArray, set_cons_zero, set_cons_succ])
  refine tkW 27 (v := ?_) ?_ (by assumption) ?_
  rotate_left
  · (intro wq hSq; (try dsimp only at hSq); go_simp; try with_reducible rfl)
  (try simp only [getElem_toArray, getElem_cons_succ, getElem_cons_zero, Act.put, setIfInBounds_toArray, set_cons_zero, set_cons_succ])
  refine wpAnyH_done (by kernel_rfl) ?_ _
  exact hQ.out _ _ _ _ _ _ _ _ _ _ _ _ _ _ _ _ _ _ _ _ _ _ _ _ _ _ _ _ hHeld2.2.2.2.2.2.2
set_option maxHeartbeats 4000000 in
set_option maxRecDepth 100000 in
theorem ck_next_mid {w : World} {K : Act → World → Prop} {cb ob n g cap m j otm : Nat} {kt : ByteArray} {od1 oa1 ot1 : Nat} {ob1 oi1 : Int} (v0 v2 v7 v8 v9 v10 v11 v12 v13 v14 v15 v16 v17 v18 v19 v20 v21 v22 v23 v24 v25 v26 v27 v28 v29 v30 v31 v32 v33 v34 v35 v36 v37 v38 v39 v40 v41 v42 v43 v44 v45 v46 v47 v48 v49 v50 v51 v52 v53 v54 v55 v56 v57 v58 v59 v60 v61 v62 v63 v64 v65 v66 v67 v68 v69 v70 v71 v72 v73 v74 v75 v76 v77 v78 v79 v80 v81 v82 v83 v84 v85 v86 v87 v88 v89 v90 v91 v92 : Value)
    (e0 : w.cell? ⟨ob, 0, none⟩ = some (.string kt)) (e1 : w.cell? ⟨ob, 1, none⟩ = some (.int .i64 (od1 : Int))) (e2 : w.cell? ⟨ob, 2, none⟩ = some (.int .i64 (oa1 : Int))) (e3 : w.cell? ⟨ob, 3, none⟩ = some (.int .i64 ob1)) (e4 : w.cell? ⟨ob, 4, none⟩ = some (.int .u32 oi1)) (e5 : w.cell? ⟨ob, 5, none⟩ = some (.int .i64 (ot1 : Int)))
    (e6 : w.cell? ⟨cb, 2, none⟩ = some (.slice (some ⟨g, 0, none⟩) n cap)) (e7 : w.cell? ⟨g, m * 6 + 5, none⟩ = some (.int .i64 (otm : Int))) (hjm : j = m + 1) (hmn : m < n) (hn : n ≤ 100) (hat : otm ≤ ot1) (HI : Hid (∀ wx, Calls Tryz.prog 67 #[opA kt od1 oa1 ob1 oi1 ot1] wx fun e w' => e = .returned (.bool false) ∧ Below wx.heap.size wx w'))
    (hQ : Hid (∀ (u56 u57 u58 u59 u60 u61 u62 u63 u64 u65 u66 u67 u68 u69 u70 u71 u72 u73 u74 u75 u76 u77 u78 u79 u80 u81 u82 : Value) w', Below w.heap.size w w' → K ⟨#[v0, .pointer (some ⟨cb, 0, none⟩), v2, .int .i64 (n : Int), .int .i64 ((j : Int)), .pointer (some ⟨ob, 0, none⟩), .nilIface, v7, v8, v9, v10, v11, v12, v13, v14, v15, v16, v17, v18, v19, v20, v21, v22, v23, v24, v25, v26, v27, v28, v29, v30, v31, v32, v33, v34, v35, v36, v37, v38, v39, v40, v41, v42, v43, v44, v45, v46, v47, v48, v49, v50, v51, v52, v53, v54, v55, u56, u57, u58, u59, u60, u61, u62, u63, u64, u65, u66, u67, u68, u69, u70, u71, u72, u73, u74, u75, u76, u77, u78, u79, u80, u81, u82, .bool false, v84, v85, v86, v87, v88, v89, v90, v91, v92], []⟩ w')) :
    Code.wp Tryz.prog (regC 12 Tryz.f36) (Exit.then K (fun _ _ _ => False)) ⟨#[v0, .pointer (some ⟨cb, 0, none⟩), v2, .int .i64 (n : Int), .int .i64 ((j : Int)), .pointer (some ⟨ob, 0, none⟩), .nilIface, v7, v8, v9, v10, v11, v12, v13, v14, v15, v16, v17, v18, v19, v20, v21, v22, v23, v24, v25, v26, v27, v28, v29, v30, v31, v32, v33, v34, v35, v36, v37, v38, v39, v40, v41, v42, v43, v44, v45, v46, v47, v48, v49, v50, v51, v52, v53, v54, v55, v56, v57, v58, v59, v60, v61, v62, v63, v64, v65, v66, v67, v68, v69, v70, v71, v72, v73, v74, v75, v76, v77, v78, v79, v80, v81, v82, v83, v84, v85, v86, v87, v88, v89, v90, v91, v92], []⟩ w := by
  have hj1 : (0 : Int) < (j : Int) := by omega
  have hj2 : 0 < j := by omega
  have hjw : (j : Int) - 1 = (m : Int) := by omega
  have hjw2 : IntKind.i64.wrap ((j : Int) - 1) = (m : Int) := by rw [hjw]; exact IntWalk.i64_in _ ⟨by omega, by omega⟩
  have hjw3 : wrap64 ((j : Int) - 1) = (m : Int) := by rw [hjw]; exact IntWalk.wrap64_in _ ⟨by omega, by omega⟩
  have hw1 : IntKind.i64.wrap (m : Int) = (m : Int) := IntWalk.i64_in _ ⟨by omega, by omega⟩
  have hw2 : IntKind.i64.wrap (j : Int) = (j : Int) := IntWalk.i64_in _ ⟨by omega, by omega⟩
  have hm1 : (m : Int) < (n : Int) := by omega
  have ha1 : ¬ (ot1 : Int) < (otm : Int) := by omega
  have ha2 : decide ((ot1 : Int) < (otm : Int)) = false := decide_eq_false ha1
  have ha3 : decide (ot1 < otm) = false := decide_eq_false (by omega)
  clear hjm hmn hn hat
  conv => arg 2; whnf
  refine wp_region_held_drew (S := fun w' => (w'.cell? ⟨ob, 0, none⟩ = some (.string kt) ∧ w'.cell? ⟨ob, 1, none⟩ = some (.int .i64 (od1 : Int)) ∧ w'.cell? ⟨ob, 2, none⟩ = some (.int .i64 (oa1 : Int)) ∧ w'.cell? ⟨ob, 3, none⟩ = some (.int .i64 ob1) ∧ w'.cell? ⟨ob, 4, none⟩ = some (.int .u32 oi1) ∧ w'.cell? ⟨ob, 5, none⟩ = some (.int .i64 (ot1 : Int)) ∧ w'.cell? ⟨cb, 2, none⟩ = some (.slice (some ⟨g, 0, none⟩) n cap) ∧ w'.cell? ⟨g, m * 6 + 5, none⟩ = some (.int .i64 (otm : Int)) ∧ Below w.heap.size w w')) (by kernel_rfl) ?_ (fun hHeld => ?_)
  · exact ⟨e0, e1, e2, e3, e4, e5, e6, e7, (Below.refl _ _).drew⟩
  refine tkW 0 (v := ?_) ?_ (by assumption) ?_
  rotate_left
  · (intro wq hSq; (try dsimp only at hSq); go_simp; try with_reducible rfl)
  (try simp only [getElem_toArray, getElem_cons_succ, getElem_cons_zero, Act.put, setIfInBounds_toArray, set_cons_zero, set_cons_succ])
  refine tkW 1 (v := ?_) ?_ (by assumption) ?_
  rotate_left
  · (intro wq hSq; (try dsimp only at hSq); go_simp; try with_reducible rfl)
  (try simp only [getElem_toArray, getElem_cons_succ, getElem_cons_zero, Act.put, setIfInBounds_toArray, set_cons_zero, set_cons_succ])
  refine tkW 2 (v := ?_) ?_ (by assumption) ?_
  rotate_left
  · (intro wq hSq; (try dsimp only at hSq); go_simp; try with_reducible rfl)
  (try simp only [getElem_toArray, getElem_cons_succ, getElem_cons_zero, Act.put, setIfInBounds_toArray, set_cons_zero, set_cons_succ])
  refine tkW 3 (v := ?_) ?_ (by assumption) ?_
  rotate_left
  · (intro wq hSq; (try dsimp only at hSq); go_simp; try with_reducible rfl)
  (try simp only [getElem_toArray, getElem_cons_succ, getElem_cons_zero, Act.put, setIfInBounds_toArray, set_cons_zero, set_cons_succ])
  refine tkW 4 (v := ?_) ?_ (by assumption) ?_
  rotate_left
  · (intro wq hSq; (try dsimp only at hSq); go_simp; try with_reducible rfl)
  (try simp only [getElem_toArray, getElem_cons_succ, getElem_cons_zero, Act.put, setIfInBounds_toArray, set_cons_zero, set_cons_succ])
  refine tkW 5 (v := ?_) ?_ (by assumption) ?_
  rotate_left
  · (intro wq hSq; (try dsimp only at hSq); go_simp; try with_reducible rfl)
  (try simp only [getElem_toArray, getElem_cons_succ, getElem_cons_zero, Act.put, setIfInBounds_toArray, set_cons_zero, set_cons_succ])
  refine tkW 6 (v := ?_) ?_ (by assumption) ?_
  rotate_left
  · (intro wq hSq; (try dsimp only at hSq); go_simp; try with_reducible rfl)
  (try simp only [getElem_toArray, getElem_cons_succ, getElem_cons_zero, Act.put, setIfInBounds_toArray, set_cons_zero, set_cons_succ])
  refine tkW 7 (v := ?_) ?_ (by assumption) ?_
  rotate_left
  · (intro wq hSq; (try dsimp only at hSq); go_simp; try with_reducible rfl)
  (try simp only [getElem_toArray, getElem_cons_succ, getElem_cons_zero, Act.put, setIfInBounds_toArray, set_cons_zero, set_cons_succ])
  refine tkW 8 (v := ?_) ?_ (by assumption) ?_
  rotate_left
  · (intro wq hSq; (try dsimp only at hSq); go_simp; try with_reducible rfl)
  (try simp only [getElem_toArray, getElem_cons_succ, getElem_cons_zero, Act.put, setIfInBounds_toArray, set_cons_zero, set_cons_succ])
  refine tkW 9 (v := ?_) ?_ (by assumption) ?_
  rotate_left
  · (intro wq hSq; (try dsimp only at hSq); go_simp; try with_reducible rfl)
  (try simp only [getElem_toArray, getElem_cons_succ, getElem_cons_zero, Act.put, setIfInBounds_toArray, set_cons_zero, set_cons_succ])
  refine tkW 10 (v := ?_) ?_ (by assumption) ?_
  rotate_left
  · (intro wq hSq; (try dsimp only at hSq); go_simp; try with_reducible rfl)
  (try simp only [getElem_toArray, getElem_cons_succ, getElem_cons_zero, Act.put, setIfInBounds_toArray, set_cons_zero, set_cons_succ])
  refine tkW 11 (v := ?_) ?_ (by assumption) ?_
  rotate_left
  · (intro wq hSq; (try dsimp only at hSq); go_simp; try with_reducible rfl)
  (try simp only [getElem_toArray, getElem_cons_succ, getElem_cons_zero, Act.put, setIfInBounds_toArray, set_cons_zero, set_cons_succ])
  refine tkW 12 (v := ?_) ?_ (by assumption) ?_
  rotate_left
  · (intro wq hSq; (try dsimp only at hSq); go_simp; try with_reducible rfl)
  (try simp only [getElem_toArray, getElem_cons_succ, getElem_cons_zero, Act.put, setIfInBounds_toArray, set_cons_zero, set_cons_succ])
  refine tkW 13 (v := ?_) ?_ (by assumption) ?_
  rotate_left
  · (intro wq hSq; (try dsimp only at hSq); go_simp; try with_reducible rfl)
  (try simp only [getElem_toArray, getElem_cons_succ, getElem_cons_zero, Act.put, setIfInBounds_toArray, set_cons_zero, set_cons_succ])
  refine tkW 14 (v := ?_) ?_ (by assumption) ?_
  rotate_left
  · (intro wq hSq; (try dsimp only at hSq); go_simp; try with_reducible rfl)
  (try simp only [getElem_toArray, getElem_cons_succ, getElem_cons_zero, Act.put, setIfInBounds_toArray, set_cons_zero, set_cons_succ])
  refine tkW 15 (v := ?_) ?_ (by assumption) ?_
  rotate_left
  · (intro wq hSq; (try dsimp only at hSq); go_simp; try with_reducible rfl)
  (try simp only [getElem_toArray, getElem_cons_succ, getElem_cons_zero, Act.put, setIfInBounds_toArray, set_cons_zero, set_cons_succ])
  refine tkW 16 (v := ?_) ?_ (by assumption) ?_
  rotate_left
  · (intro wq hSq; (try dsimp only at hSq); go_simp; try with_reducible rfl)
  (try simp only [getElem_toArray, getElem_cons_succ, getElem_cons_zero, Act.put, setIfInBounds_toArray, set_cons_zero, set_cons_succ])
  refine tkW 17 (v := ?_) ?_ (by assumption) ?_
  rotate_left
  · (intro wq hSq; (try dsimp only at hSq); go_simp; try with_reducible rfl)
  (try simp only [getElem_toArray, getElem_cons_succ, getElem_cons_zero, Act.put, setIfInBounds_toArray, set_cons_zero, set_cons_succ])
  refine tkW 18 (v := ?_) ?_ (by assumption) ?_
  rotate_left
  · (intro wq hSq; (try dsimp only at hSq); go_simp; try with_reducible rfl)
  (try simp only [getElem_toArray, getElem_cons_succ, getElem_cons_zero, Act.put, setIfInBounds_toArray, set_cons_zero, set_cons_succ])
  refine wpAnyH_ready (rs := [19]) (by kernel_rfl) (by simp) ?_
  refine AllReadyH.cons rfl (fun K9 hK9 => ?_) AllReadyH.nil
  go_simp
  refine (HI.out _).mono ?_
  rintro e w2 ⟨rfl, hb9⟩
  refine hK9.out _ _ ?_ (fun hHeld2 => ?_)
  · (try dsimp only at hHeld)
    go_split_ands
    refine ⟨?_, ?_, ?_, ?_, ?_, ?_, ?_, ?_, ?_⟩ <;> (first | assumption | (rw [hb9.cell (World.block_lt_of_cell? _ _ (by assumption))]; assumption) | exact Below.trans (by assumption) (hb9.mono (Below.size (by assumption))))
  clear hK9 K9
  (try simp only [getElem_toArray, getElem_cons_succ, getElem_cons_zero, Act.put, setIfInBounds_toArray, set_cons_zero, set_cons_succ])
  refine tkW 20 (v := ?_) ?_ (by assumption) ?_
  rotate_left
  · (intro wq hSq; (try dsimp only at hSq); go_simp; try with_reducible rfl)
  (try simp only [getElem_toArray, getElem_cons_succ, getElem_cons_zero, Act.put, setIfInBounds_toArray, set_cons_zero, set_cons_succ])
  refine tkU 21 (by assumption) ?_
  (try simp only [getElem_toArray, getElem_cons_succ, getElem_cons_zero, Act.put, setIfInBounds_toArray, set_cons_zero, set_cons_succ])
  refine tkU 22 (by assumption) ?_
  (try simp only [getElem_toArray, getElem_cons_succ, getElem_cons_zero, Act.put, setIfInBounds_toArray, set_cons_zero, set_cons_succ])
  refine tkU 23 (by assumption) ?_
  (try simp only [getElem_toArray, getElem_cons_succ, getElem_cons_zero, Act.put, setIfInBounds_toArray, set_cons_zero, set_cons_succ])
  refine tkU 24 (by assumption) ?_
  (try simp only [getElem_toArray, getElem_cons_succ, getElem_cons_zero, Act.put, setIfInBounds_toArray, set_cons_zero, set_cons_succ])
  refine tkW 25 (v := ?_) ?_ (by assumption) ?_
  rotate_left
  · (intro wq hSq; (try dsimp only at hSq); go_simp; try with_reducible rfl)
  (try simp only [getElem_toArray, getElem_cons_succ, getElem_cons_zero, Act.put, setIfInBounds_toArray, set_cons_zero, set_cons_succ])
  refine tkW 26 (v := ?_) ?_ (by assumption) ?_
  rotate_left
  · (intro wq hSq; (try dsimp only at hSq); go_simp; try with_reducible rfl)
  (try simp only [getElem_toArray, getElem_cons_succ, getElem_cons_zero, Act.put, setIfInBounds_toArray, set_cons_zero, set_cons_succ])
  refine tkW 27 (v := ?_) ?_ (by assumption) ?_
  rotate_left
  · (intro wq hSq; (try dsimp only at hSq); go_simp; try with_reducible rfl)
  (try simp only [getElem_toArray, getElem_cons_succ, getElem_cons_zero, Act.put, setIfInBounds_toArray, set_cons_zero, set_cons_succ])
  refine wpAnyH_done (by kernel_rfl) ?_ _
  exact hQ.out _ _ _ _ _ _ _ _ _ _ _ _ _ _ _ _ _ _ _ _ _ _ _ _ _ _ _ _ hHeld2.2.2.2.2.2.2.2.2
set_option maxHeartbeats 4000000 in
set_option maxRecDepth 100000 in
theorem ck_next_last {w : World} {K : Act → World → Prop} {cb ob n g cap m j otm : Nat} {kt : ByteArray} {od1 oa1 ot1 : Nat} {ob1 oi1 : Int} (v0 v2 v7 v8 v9 v10 v11 v12 v13 v14 v15 v16 v17 v18 v19 v20 v21 v22 v23 v24 v25 v26 v27 v28 v29 v30 v31 v32 v33 v34 v35 v36 v37 v38 v39 v40 v41 v42 v43 v44 v45 v46 v47 v48 v49 v50 v51 v52 v53 v54 v55 v56 v57 v58 v59 v60 v61 v62 v63 v64 v65 v66 v67 v68 v69 v70 v71 v72 v73 v74 v75 v76 v77 v78 v79 v80 v81 v82 v83 v84 v85 v86 v87 v88 v89 v90 v91 v92 : Value)
    (e0 : w.cell? ⟨ob, 0, none⟩ = some (.string kt)) (e1 : w.cell? ⟨ob, 1, none⟩ = some (.int .i64 (od1 : Int))) (e2 : w.cell? ⟨ob, 2, none⟩ = some (.int .i64 (oa1 : Int))) (e3 : w.cell? ⟨ob, 3, none⟩ = some (.int .i64 ob1)) (e4 : w.cell? ⟨ob, 4, none⟩ = some (.int .u32 oi1)) (e5 : w.cell? ⟨ob, 5, none⟩ = some (.int .i64 (ot1 : Int)))
    (e6 : w.cell? ⟨cb, 2, none⟩ = some (.slice (some ⟨g, 0, none⟩) n cap)) (e7 : w.cell? ⟨g, m * 6 + 5, none⟩ = some (.int .i64 (otm : Int))) (hjm : j = m + 1) (hmn : m < n) (hn : n ≤ 100) (hat : otm ≤ ot1) (hln : (n : Int) - 1 = (m : Int) + 1) (HI : Hid (∀ wx, Calls Tryz.prog 67 #[opA kt od1 oa1 ob1 oi1 ot1] wx fun e w' => e = .returned (.bool true) ∧ Below wx.heap.size wx w'))
    (hQ : Hid (∀ (u56 u57 u58 u59 u60 u61 u62 u63 u64 u65 u66 u67 u68 u69 u70 u71 u72 u73 u74 u75 u76 u77 u78 u79 u80 u81 u82 : Value) w', Below w.heap.size w w' → K ⟨#[v0, .pointer (some ⟨cb, 0, none⟩), v2, .int .i64 (n : Int), .int .i64 ((j : Int)), .pointer (some ⟨ob, 0, none⟩), .nilIface, v7, v8, v9, v10, v11, v12, v13, v14, v15, v16, v17, v18, v19, v20, v21, v22, v23, v24, v25, v26, v27, v28, v29, v30, v31, v32, v33, v34, v35, v36, v37, v38, v39, v40, v41, v42, v43, v44, v45, v46, v47, v48, v49, v50, v51, v52, v53, v54, v55, u56, u57, u58, u59, u60, u61, u62, u63, u64, u65, u66, u67, u68, u69, u70, u71, u72, u73, u74, u75, u76, u77, u78, u79, u80, u81, u82, .bool false, v84, v85, v86, v87, v88, v89, v90, v91, v92], []⟩ w')) :
    Code.wp Tryz.prog (regC 12 Tryz.f36) (Exit.then K (fun _ _ _ => False)) ⟨#[v0, .pointer (some ⟨cb, 0, none⟩), v2, .int .i64 (n : Int), .int .i64 ((j : Int)), .pointer (some ⟨ob, 0, none⟩), .nilIface, v7, v8, v9, v10, v11, v12, v13, v14, v15, v16, v17, v18, v19, v20, v21, v22, v23, v24, v25, v26, v27, v28, v29, v30, v31, v32, v33, v34, v35, v36, v37, v38, v39, v40, v41, v42, v43, v44, v45, v46, v47, v48, v49, v50, v51, v52, v53, v54, v55, v56, v57, v58, v59, v60, v61, v62, v63, v64, v65, v66, v67, v68, v69, v70, v71, v72, v73, v74, v75, v76, v77, v78, v79, v80, v81, v82, v83, v84, v85, v86, v87, v88, v89, v90, v91, v92], []⟩ w := by
  have hj1 : (0 : Int) < (j : Int) := by omega
  have hj2 : 0 < j := by omega
  have hjw : (j : Int) - 1 = (m : Int) := by omega
  have hjw2 : IntKind.i64.wrap ((j : Int) - 1) = (m : Int) := by rw [hjw]; exact IntWalk.i64_in _ ⟨by omega, by omega⟩
  have hjw3 : wrap64 ((j : Int) - 1) = (m : Int) := by rw [hjw]; exact IntWalk.wrap64_in _ ⟨by omega, by omega⟩
  have hw1 : IntKind.i64.wrap (m : Int) = (m : Int) := IntWalk.i64_in _ ⟨by omega, by omega⟩
  have hw2 : IntKind.i64.wrap (j : Int) = (j : Int) := IntWalk.i64_in _ ⟨by omega, by omega⟩
  have hm1 : (m : Int) < (n : Int) := by omega
  have ha1 : ¬ (ot1 : Int) < (otm : Int) := by omega
  have ha2 : decide ((ot1 : Int) < (otm : Int)) = false := decide_eq_false ha1
  have ha3 : decide (ot1 < otm) = false := decide_eq_false (by omega)
  have hl1 : (n : Int) - 1 = (j : Int) := by omega
  have hl2 : IntKind.i64.wrap ((n : Int) - 1) = (j : Int) := by rw [hl1]; exact IntWalk.i64_in _ ⟨by omega, by omega⟩
  have hl3 : wrap64 ((n : Int) - 1) = (j : Int) := by rw [hl1]; exact IntWalk.wrap64_in _ ⟨by omega, by omega⟩
  clear hln
  clear hjm hmn hn hat
  conv => arg 2; whnf
  refine wp_region_held_drew (S := fun w' => (w'.cell? ⟨ob, 0, none⟩ = some (.string kt) ∧ w'.cell? ⟨ob, 1, none⟩ = some (.int .i64 (od1 : Int)) ∧ w'.cell? ⟨ob, 2, none⟩ = some (.int .i64 (oa1 : Int)) ∧ w'.cell? ⟨ob, 3, none⟩ = some (.int .i64 ob1) ∧ w'.cell? ⟨ob, 4, none⟩ = some (.int .u32 oi1) ∧ w'.cell? ⟨ob, 5, none⟩ = some (.int .i64 (ot1 : Int)) ∧ w'.cell? ⟨cb, 2, none⟩ = some (.slice (some ⟨g, 0, none⟩) n cap) ∧ w'.cell? ⟨g, m * 6 + 5, none⟩ = some (.int .i64 (otm : Int)) ∧ Below w.heap.size w w')) (by kernel_rfl) ?_ (fun hHeld => ?_)
  · exact ⟨e0, e1, e2, e3, e4, e5, e6, e7, (Below.refl _ _).drew⟩
  refine tkW 0 (v := ?_) ?_ (by assumption) ?_
  rotate_left
  · (intro wq hSq; (try dsimp only at hSq); go_simp; try with_reducible rfl)
  (try simp only [getElem_toArray, getElem_cons_succ, getElem_cons_zero, Act.put, setIfInBounds_toArray, set_cons_zero, set_cons_succ])
  refine tkW 1 (v := ?_) ?_ (by assumption) ?_
  rotate_left
  · (intro wq hSq; (try dsimp only at hSq); go_simp; try with_reducible rfl)
  (try simp only [getElem_toArray, getElem_cons_succ, getElem_cons_zero, Act.put, setIfInBounds_toArray, set_cons_zero, set_cons_succ])
  refine tkW 2 (v := ?_) ?_ (by assumption) ?_
  rotate_left
  · (intro wq hSq; (try dsimp only at hSq); go_simp; try with_reducible rfl)
  (try simp only [getElem_toArray, getElem_cons_succ, getElem_cons_zero, Act.put, setIfInBounds_toArray, set_cons_zero, set_cons_succ])
  refine tkW 3 (v := ?_) ?_ (by assumption) ?_
  rotate_left
  · (intro wq hSq; (try dsimp only at hSq); go_simp; try with_reducible rfl)
  (try simp only [getElem_toArray, getElem_cons_succ, getElem_cons_zero, Act.put, setIfInBounds_toArray, set_cons_zero, set_cons_succ])
  refine tkW 4 (v := ?_) ?_ (by assumption) ?_
  rotate_left
  · (intro wq hSq; (try dsimp only at hSq); go_simp; try with_reducible rfl)
  (try simp only [getElem_toArray, getElem_cons_succ, getElem_cons_zero, Act.put, setIfInBounds_toArray, set_cons_zero, set_cons_succ])
  refine tkW 5 (v := ?_) ?_ (by assumption) ?_
  rotate_left
  · (intro wq hSq; (try dsimp only at hSq); go_simp; try with_reducible rfl)
  (try simp only [getElem_toArray, getElem_cons_succ, getElem_cons_zero, Act.put, setIfInBounds_toArray, set_cons_zero, set_cons_succ])
  refine tkW 6 (v := ?_) ?_ (by assumption) ?_
  rotate_left
  · (intro wq hSq; (try dsimp only at hSq); go_simp; try with_reducible rfl)
  (try simp only [getElem_toArray, getElem_cons_succ, getElem_cons_zero, Act.put, setIfInBounds_toArray, set_cons_zero, set_cons_succ])
  refine tkW 7 (v := ?_) ?_ (by assumption) ?_
  rotate_left
  · (intro wq hSq; (try dsimp only at hSq); go_simp; try with_reducible rfl)
  (try simp only [getElem_toArray, getElem_cons_succ, getElem_cons_zero, Act.put, setIfInBounds_toArray, set_cons_zero, set_cons_succ])
  refine tkW 8 (v := ?_) ?_ (by assumption) ?_
  rotate_left
  · (intro wq hSq; (try dsimp only at hSq); go_simp; try with_reducible rfl)
  (try simp only [getElem_toArray, getElem_cons_succ, getElem_cons_zero, Act.put, setIfInBounds_toArray, set_cons_zero, set_cons_succ])
  refine tkW 9 (v := ?_) ?_ (by assumption) ?_
  rotate_left
  · (intro wq hSq; (try dsimp only at hSq); go_simp; try with_reducible rfl)
  (try simp only [getElem_toArray, getElem_cons_succ, getElem_cons_zero, Act.put, setIfInBounds_toArray, set_cons_zero, set_cons_succ])
  refine tkW 10 (v := ?_) ?_ (by assumption) ?_
  rotate_left
  · (intro wq hSq; (try dsimp only at hSq); go_simp; try with_reducible rfl)
  (try simp only [getElem_toArray, getElem_cons_succ, getElem_cons_zero, Act.put, setIfInBounds_toArray, set_cons_zero, set_cons_succ])
  refine tkW 11 (v := ?_) ?_ (by assumption) ?_
  rotate_left
  · (intro wq hSq; (try dsimp only at hSq); go_simp; try with_reducible rfl)
  (try simp only [getElem_toArray, getElem_cons_succ, getElem_cons_zero, Act.put, setIfInBounds_toArray, set_cons_zero, set_cons_succ])
  refine tkW 12 (v := ?_) ?_ (by assumption) ?_
  rotate_left
  · (intro wq hSq; (try dsimp only at hSq); go_simp; try with_reducible rfl)
  (try simp only [getElem_toArray, getElem_cons_succ, getElem_cons_zero, Act.put, setIfInBounds_toArray, set_cons_zero, set_cons_succ])
  refine tkW 13 (v := ?_) ?_ (by assumption) ?_
  rotate_left
  · (intro wq hSq; (try dsimp only at hSq); go_simp; try with_reducible rfl)
  (try simp only [getElem_toArray, getElem_cons_succ, getElem_cons_zero, Act.put, setIfInBounds_toArray, set_cons_zero, set_cons_succ])
  refine tkW 14 (v := ?_) ?_ (by assumption) ?_
  rotate_left
  · (intro wq hSq; (try dsimp only at hSq); go_simp; try with_reducible rfl)
  (try simp only [getElem_toArray, getElem_cons_succ, getElem_cons_zero, Act.put, setIfInBounds_toArray, set_cons_zero, set_cons_succ])
  refine tkW 15 (v := ?_) ?_ (by assumption) ?_
  rotate_left
  · (intro wq hSq; (try dsimp only at hSq); go_simp; try with_reducible rfl)
  (try simp only [getElem_toArray, getElem_cons_succ, getElem_cons_zero, Act.put, setIfInBounds_toArray, set_cons_zero, set_cons_succ])
  refine tkW 16 (v := ?_) ?_ (by assumption) ?_
  rotate_left
  · (intro wq hSq; (try dsimp only at hSq); go_simp; try with_reducible rfl)
  (try simp only [getElem_toArray, getElem_cons_succ, getElem_cons_zero, Act.put, setIfInBounds_toArray, set_cons_zero, set_cons_succ])
  refine tkW 17 (v := ?_) ?_ (by assumption) ?_
  rotate_left
  · (intro wq hSq; (try dsimp only at hSq); go_simp; try with_reducible rfl)
  (try simp only [getElem_toArray, getElem_cons_succ, getElem_cons_zero, Act.put, setIfInBounds_toArray, set_cons_zero, set_cons_succ])
  refine tkW 18 (v := ?_) ?_ (by assumption) ?_
  rotate_left
  · (intro wq hSq; (try dsimp only at hSq); go_simp; try with_reducible rfl)
  (try simp only [getElem_toArray, getElem_cons_succ, getElem_cons_zero, Act.put, setIfInBounds_toArray, set_cons_zero, set_cons_succ])
  refine wpAnyH_ready (rs := [19]) (by kernel_rfl) (by simp) ?_
  refine AllReadyH.cons rfl (fun K9 hK9 => ?_) AllReadyH.nil
  go_simp
  refine (HI.out _).mono ?_
  rintro e w2 ⟨rfl, hb9⟩
  refine hK9.out _ _ ?_ (fun hHeld2 => ?_)
  · (try dsimp only at hHeld)
    go_split_ands
    refine ⟨?_, ?_, ?_, ?_, ?_, ?_, ?_, ?_, ?_⟩ <;> (first | assumption | (rw [hb9.cell (World.block_lt_of_cell? _ _ (by assumption))]; assumption) | exact Below.trans (by assumption) (hb9.mono (Below.size (by assumption))))
  clear hK9 K9
  (try simp only [getElem_toArray, getElem_cons_succ, getElem_cons_zero, Act.put, setIfInBounds_toArray, set_cons_zero, set_cons_succ])
  refine tkW 20 (v := ?_) ?_ (by assumption) ?_
  rotate_left
  · (intro wq hSq; (try dsimp only at hSq); go_simp; try with_reducible rfl)
  (try simp only [getElem_toArray, getElem_cons_succ, getElem_cons_zero, Act.put, setIfInBounds_toArray, set_cons_zero, set_cons_succ])
  refine tkW 21 (v := ?_) ?_ (by assumption) ?_
  rotate_left
  · (intro wq hSq; (try dsimp only at hSq); go_simp; try with_reducible rfl)
  (try simp only [getElem_toArray, getElem_cons_succ, getElem_cons_zero, Act.put, setIfInBounds_toArray, set_cons_zero, set_cons_succ])
  refine tkW 22 (v := ?_) ?_ (by assumption) ?_
  rotate_left
  · (intro wq hSq; (try dsimp only at hSq); go_simp; try with_reducible rfl)
  (try simp only [getElem_toArray, getElem_cons_succ, getElem_cons_zero, Act.put, setIfInBounds_toArray, set_cons_zero, set_cons_succ])
  refine tkW 23 (v := ?_) ?_ (by assumption) ?_
  rotate_left
  · (intro wq hSq; (try dsimp only at hSq); go_simp; try with_reducible rfl)
  (try simp only [getElem_toArray, getElem_cons_succ, getElem_cons_zero, Act.put, setIfInBounds_toArray, set_cons_zero, set_cons_succ])
  refine tkW 24 (v := ?_) ?_ (by assumption) ?_
  rotate_left
  · (intro wq hSq; (try dsimp only at hSq); go_simp; try with_reducible rfl)
  (try simp only [getElem_toArray, getElem_cons_succ, getElem_cons_zero, Act.put, setIfInBounds_toArray, set_cons_zero, set_cons_succ])
  refine tkW 25 (v := ?_) ?_ (by assumption) ?_
  rotate_left
  · (intro wq hSq; (try dsimp only at hSq); go_simp; try with_reducible rfl)
  (try simp only [getElem_toArray, getElem_cons_succ, getElem_cons_zero, Act.put, setIfInBounds_toArray, set_cons_zero, set_cons_succ])
  refine tkW 26 (v := ?_) ?_ (by assumption) ?_
  rotate_left
  · (intro wq hSq; (try dsimp only at hSq); go_simp; try with_reducible rfl)
  (try simp only [getElem_toArray, getElem_cons_succ, getElem_cons_zero, Act.put, setIfInBounds_toArray, set_cons_zero, set_cons_succ])
  refine tkW 27 (v := ?_) ?_ (by assumption) ?_
  rotate_left
  · (intro wq hSq; (try dsimp only at hSq); go_simp; try with_reducible rfl)
  (try simp only [getElem_toArray, getElem_cons_succ, getElem_cons_zero, Act.put, setIfInBounds_toArray, set_cons_zero, set_cons_succ])
  refine wpAnyH_done (by kernel_rfl) ?_ _
  exact hQ.out _ _ _ _ _ _ _ _ _ _ _ _ _ _ _ _ _ _ _ _ _ _ _ _ _ _ _ _ hHeld2.2.2.2.2.2.2.2.2
end Go.Proofs.YtadoaldnjnkhgaaGreatDoor
