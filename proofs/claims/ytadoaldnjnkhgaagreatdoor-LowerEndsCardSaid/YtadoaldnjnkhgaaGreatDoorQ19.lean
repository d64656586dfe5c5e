/- The walk of ir's Check at a right code. The walks of ir's lower: sum, set, copy, kinds, load; cpu.Size, word.Wide. The walks of ir's lower: load, long, branch, leave. The walks of the document's immOf, SizeOf, kindOf. The document's memory, third part: the walks of NewRam and Copy. The document's memory, last part: the walks of NewRam at no words, Copy. Conditions: as each theorem states. -/
import Derived.Test.YtadoaldnjnkhgaaGreatDoorQ18
import Derived.Deep.RegionHeld3
import Derived.Test.YtadoaldnjnkhgaaGreatDoorQ05
import Derived.Test.YtadoaldnjnkhgaaGreatDoorQ01
import Derived.Test.YtadoaldnjnkhgaaGreatDoorQ10
import Derived.Deep.OwnRows
import Derived.WalkSmall
import Derived.StillTailTactics
set_option linter.unusedVariables false
set_option linter.unusedSimpArgs false
namespace Go.Proofs.YtadoaldnjnkhgaaGreatDoor
open Go.RowKit
abbrev CodeBox (w : World) (b : Nat) (pc : Int) (many : Nat) (v : Value) : Prop := w.heap[b]? = some (Obj.cells #[.int .u32 pc, .int .i64 (many : Int), v] 34 (0, 0))
theorem CodeBox.cells {w : World} {b : Nat} {pc : Int} {many : Nat} {v : Value} (h : CodeBox w b pc many v) : w.cell? ⟨b, 0, none⟩ = some (.int .u32 pc) ∧ w.cell? ⟨b, 1, none⟩ = some (.int .i64 (many : Int)) ∧ w.cell? ⟨b, 2, none⟩ = some v := by
  refine ⟨?_, ?_, ?_⟩ <;> simp [World.cell?, h]
set_option maxHeartbeats 4000000 in
set_option maxRecDepth 100000 in
theorem irCheck_ok {w : World} {g cap many : Nat} {ops : List OpN} {pc mx : Int} (h : OpsAt w g ops) (hc : CodeOK many ops) (hm : w.cell? ⟨11, 0, none⟩ = some (.int .i64 mx)) :
    Calls Tryz.prog 36 #[.agg #[.int .u32 pc, .int .i64 (many : Int), .slice (some ⟨g, 0, none⟩) ops.length cap]] w fun e w' => e = .returned .nilIface ∧ Below w.heap.size w w' := by
  have HC := Lib.hid hc
  have m0 : (1 : Int) ≤ (many : Int) := by have := hc.m0; omega
  have m1 : (many : Int) ≤ 24 := by have := hc.m1; omega
  have l0 : (0 : Int) < (ops.length : Int) := by have := hc.ne; omega
  have l1 : (ops.length : Int) ≤ 100 := by have := hc.len; omega
  have l2 : ((ops.length : Int) == 0) = false := by simp only [beq_eq_false_iff_ne, ne_eq]; omega
  have s1 : (storesO ops : Int) ≤ 8 := by have := hc.st; omega
  have s0 : (0 : Int) ≤ (storesO ops : Int) := by omega
  have hAl := (Below.refl w.heap.size w).alloc (Nat.le_refl _) (.cells #[.int .u32 pc, .int .i64 (many : Int), .slice (some ⟨g, 0, none⟩) ops.length cap] 34)
  have HS := Lib.hid (irStores_any (cap := cap) (h.below hAl h.lt) hc.len)
  have HAL := Lib.hid hAl
  have HBX : Hid (CodeBox (w.alloc (.cells #[.int .u32 pc, .int .i64 (many : Int), .slice (some ⟨g, 0, none⟩) ops.length cap] 34)) w.heap.size pc many (.slice (some ⟨g, 0, none⟩) ops.length cap)) := Lib.hid (heap_alloc_new w _)
  have HMX := Lib.hid ((hAl.cell (p := ⟨11, 0, none⟩) (World.block_lt_of_cell? _ _ hm)).trans hm)
  have HML := Lib.hid (World.block_lt_of_cell? _ _ hm)
  have HO := Lib.hid (h.below hAl h.lt)
  have HSZ : Hid (w.heap.size < (w.alloc (.cells #[.int .u32 pc, .int .i64 (many : Int), .slice (some ⟨g, 0, none⟩) ops.length cap] 34)).heap.size) := Lib.hid (by simp)
  obtain ⟨z, hz⟩ : ∃ z : Nat, ops.length = z + 1 := ⟨ops.length - 1, by have := hc.ne; omega⟩
  have hzl : z < ops.length := by omega
  have HZL := Lib.hid hz
  have hz2 : (ops.length : Int) - 1 = (z : Int) := by omega
  have hzw : IntKind.i64.wrap ((ops.length : Int) - 1) = (z : Int) := by rw [hz2]; exact IntWalk.i64_in _ ⟨by omega, by omega⟩
  have hz3 : (z : Int) < (ops.length : Int) := by omega
  have hout := hc.out z hzl
  rw [decide_eq_true (by omega)] at hout
  have HOUT := Lib.hid (fun wx => irOut_any (ops[z]'hzl) wx)
  rw [hout] at HOUT
  have HZC := Lib.hid (fun wx (hb : OpsAt wx g ops) => hb.cells z hzl)
  clear hAl hout h hc hz hm
  generalize hkz : (ops[z]'hzl) = oz at *
  have HG := Lib.hid hzl
  clear hkz hzl
  go_enter Tryz.func36, Tryz.ntmps36
  go_wp2_with fail
  generalize w.alloc (.cells #[.int .u32 pc, .int .i64 (many : Int), .slice (some ⟨g, 0, none⟩) ops.length cap] 34) = W at *
  refine HS.out.mono ?_
  rintro e w1 ⟨rfl, hb1⟩
  have HO1 := Lib.hid (HO.out.below hb1 HO.out.lt)
  have HB1 := Lib.hid (HAL.out.trans (hb1.mono HAL.out.size))
  have HBX1 := Lib.hid (show CodeBox w1 w.heap.size pc many (.slice (some ⟨g, 0, none⟩) ops.length cap) from (hb1.block _ HSZ.out).trans HBX.out)
  have HMX1 := Lib.hid ((hb1.cell (p := ⟨11, 0, none⟩) (Nat.lt_trans HML.out HSZ.out)).trans HMX.out)
  have HSZ1 := Lib.hid (Nat.lt_of_lt_of_le HSZ.out hb1.size)
  clear hb1 HO HBX HMX HSZ HAL HS
  obtain ⟨b0, b1, b2⟩ := HBX1.out.cells
  obtain ⟨c0, c1, c2, c3, c4, c5⟩ := HZC.out _ HO1.out
  go_wp2_with fail
  refine (HOUT.out _).mono ?_
  rintro e w2 ⟨rfl, hb2⟩
  have HO2 := Lib.hid (HO1.out.below hb2 HO1.out.lt)
  have HB2 := Lib.hid (HB1.out.trans (hb2.mono HB1.out.size))
  have HBX2 := Lib.hid (show CodeBox w2 w.heap.size pc many (.slice (some ⟨g, 0, none⟩) ops.length cap) from (hb2.block _ HSZ1.out).trans HBX1.out)
  have HMX2 := Lib.hid ((hb2.cell (p := ⟨11, 0, none⟩) (Nat.lt_trans HML.out HSZ1.out)).trans HMX1.out)
  have HSZ2 := Lib.hid (Nat.lt_of_lt_of_le HSZ1.out hb2.size)
  clear hb2 HO1 HBX1 HMX1 HSZ1 HB1 HOUT HZC b0 b1 b2 c0 c1 c2 c3 c4 c5 hz2 hzw hz3
  obtain ⟨b0, b1, b2⟩ := HBX2.out.cells
  go_wp2_with fail
  clear b0 b1 b2
  go_loopw [2, 47] (fun r i wr => ∃ j : Nat, j ≤ ops.length ∧ r = .nilIface ∧ i = .int .i64 (j : Int) ∧ Hid (Below w2.heap.size w2 wr)) (fun _ i _ => ops.length - (intOf i).toNat)
  case atStart => exact ⟨0, Nat.zero_le _, rfl, rfl, Lib.hid (Below.refl _ _)⟩
  case round =>
    obtain ⟨j, hj, rfl, rfl, HBj⟩ := hrel
    by_cases hlt : j < ops.length
    · have hjI : (j : Int) < (ops.length : Int) := by omega
      have HOj := Lib.hid (HO2.out.of_block (HBj.out.block g HO2.out.lt))
      have HBXj := Lib.hid (show CodeBox wr w.heap.size pc many (.slice (some ⟨g, 0, none⟩) ops.length cap) from (HBj.out.block _ HSZ2.out).trans HBX2.out)
      have HMXj := Lib.hid ((HBj.out.cell (p := ⟨11, 0, none⟩) (Nat.lt_trans HML.out HSZ2.out)).trans HMX2.out)
      have HSZj := Lib.hid (Nat.lt_of_lt_of_le HSZ2.out HBj.out.size)
      obtain ⟨c0, c1, c2, c3, c4, c5⟩ := HOj.out.cells j hlt
      have hgood := HC.out.good (ops[j]'hlt) (List.getElem_mem hlt)
      have HE := Lib.hid (fun wx (hx : wx.cell? ⟨11, 0, none⟩ = some (.int .i64 mx)) => irCheckOp_any hgood.2.1 hgood.1 wx hx)
      have HI := Lib.hid (fun wx => irOut_any (ops[j]'hlt) wx)
      rw [HC.out.out j hlt] at HI
      have HJ := Lib.hid hlt
      have HAT0 : Hid (∀ m (hmL : m < ops.length), j = m + 1 → ((ops[m]'hmL).at' : Int) ≤ ((ops[j]'hlt).at' : Int)) := by
        refine Lib.hid ?_
        intro m hmL hm
        have hsort := HC.out.sorted m (by omega)
        subst hm
        omega
      have hwb : wr.cell? ⟨w.heap.size, 1, none⟩ = some (.int .i64 (many : Int)) := HBXj.out.cells.2.1
      clear hgood
      generalize hoj : ops[j]'hlt = oj at *
      clear hoj hlt
      obtain ⟨ok, od1, oa1, ob1, oi1, ot1⟩ := oj
      simp only [opV] at c0 c1 c2 c3 c4 c5 HE HI HAT0
      generalize bsl ok.text = kt at *
      have hX := (Below.refl wr.heap.size wr).alloc (Nat.le_refl _) (.cells #[.string kt, .int .i64 (od1 : Int), .int .i64 (oa1 : Int), .int .i64 ob1, .int .u32 oi1, .int .i64 (ot1 : Int)] 86)
      have hwb2 : (wr.alloc (.cells #[.string kt, .int .i64 (od1 : Int), .int .i64 (oa1 : Int), .int .i64 ob1, .int .u32 oi1, .int .i64 (ot1 : Int)] 86)).cell? ⟨w.heap.size, 1, none⟩ = some (.int .i64 (many : Int)) := (hX.cell (p := ⟨w.heap.size, 1, none⟩) HSZj.out).trans hwb
      have hbX : (wr.alloc (.cells #[.string kt, .int .i64 (od1 : Int), .int .i64 (oa1 : Int), .int .i64 ob1, .int .u32 oi1, .int .i64 (ot1 : Int)] 86)).heap[wr.heap.size]? = some (.cells #[.string kt, .int .i64 (od1 : Int), .int .i64 (oa1 : Int), .int .i64 ob1, .int .u32 oi1, .int .i64 (ot1 : Int)] 86 (0, 0)) := heap_alloc_new wr _
      have hsX : (wr.alloc (.cells #[.string kt, .int .i64 (od1 : Int), .int .i64 (oa1 : Int), .int .i64 ob1, .int .u32 oi1, .int .i64 (ot1 : Int)] 86)).heap.size = wr.heap.size + 1 := by simp
      have HXX := Lib.hid (And.intro hX (And.intro hbX hsX))
      clear hwb hX hbX hsX
      go_wp2_with fail
      generalize wr.alloc (.cells #[.string kt, .int .i64 (od1 : Int), .int .i64 (oa1 : Int), .int .i64 ob1, .int .u32 oi1, .int .i64 (ot1 : Int)] 86) = X at *
      refine (HE.out _ ((HXX.out.1.cell (p := ⟨11, 0, none⟩) (Nat.lt_trans HML.out HSZj.out)).trans HMXj.out)).mono ?_
      rintro e w3 ⟨rfl, hb3⟩
      have hBO3 := (hb3.block _ (show wr.heap.size < X.heap.size by have := HXX.out.2.2; omega)).trans HXX.out.2.1
      have HB3 := Lib.hid (show Below wr.heap.size wr w3 from HXX.out.1.trans (hb3.mono HXX.out.1.size))
      have HBO3 := Lib.hid hBO3
      have HSZ3 := Lib.hid (show wr.heap.size < w3.heap.size by have := HXX.out.2.2; have := hb3.size; omega)
      clear hb3 hBO3 hwb2 c0 c1 c2 c3 c4 c5 HXX
      obtain ⟨e0, e1, e2, e3, e4, e5⟩ := six_cells HBO3.out
      go_wp2_with fail
      rename_i Kc hKc
      by_cases hj0 : j = 0
      · subst hj0
        cases hlast : decide (0 + 1 = ops.length) with
        | true =>
          rw [hlast] at HI
          have hzj : (ops.length : Int) - 1 = 0 := by have := of_decide_eq_true hlast; omega
          clear hlast
          refine wp_mono (ck_first_last (K := Kc) (g := 0) (cap := 0) (m := 0) (j := 0) (otm := 0) _ _ _ _ _ _ _ _ _ _ _ _ _ _ _ _ _ _ _ _ _ _ _ _ _ _ _ _ _ _ _ _ _ _ _ _ _ _ _ _ _ _ _ _ _ _ _ _ _ _ _ _ _ _ _ _ _ _ _ _ _ _ _ _ _ _ _ _ _ _ _ _ _ _ _ _ _ _ _ _ _ _ _ _ _ _ _ _ e0 e1 e2 e3 e4 e5 hzj HI (Lib.hid (fun u56 u57 u58 u59 u60 u61 u62 u63 u64 u65 u66 u67 u68 u69 u70 u71 u72 u73 u74 u75 u76 u77 u78 u79 u80 u81 u82 w4 hb4 => ?_))) (fun e a w h => by cases e <;> first | exact h | exact False.elim h)
          refine hKc _ _ ?_
          have HB4 := Lib.hid (HB3.out.trans (hb4.mono HB3.out.size))
          clear hb4 e0 e1 e2 e3 e4 e5 hzj
          go_wp2_with fail
          go_roundw
          case rel => exact ⟨0 + 1, HJ.out, rfl, by go_num, Lib.hid (HBj.out.trans (HB4.out.mono HBj.out.size))⟩
          case measure => have := HJ.out; go_light; simp [intOf]; omega
        | false =>
          rw [hlast] at HI
          clear hlast
          refine wp_mono (ck_first_mid (K := Kc) (g := 0) (cap := 0) (m := 0) (j := 0) (otm := 0) _ _ _ _ _ _ _ _ _ _ _ _ _ _ _ _ _ _ _ _ _ _ _ _ _ _ _ _ _ _ _ _ _ _ _ _ _ _ _ _ _ _ _ _ _ _ _ _ _ _ _ _ _ _ _ _ _ _ _ _ _ _ _ _ _ _ _ _ _ _ _ _ _ _ _ _ _ _ _ _ _ _ _ _ _ _ _ _ e0 e1 e2 e3 e4 e5 HI (Lib.hid (fun u56 u57 u58 u59 u60 u61 u62 u63 u64 u65 u66 u67 u68 u69 u70 u71 u72 u73 u74 u75 u76 u77 u78 u79 u80 u81 u82 w4 hb4 => ?_))) (fun e a w h => by cases e <;> first | exact h | exact False.elim h)
          refine hKc _ _ ?_
          have HB4 := Lib.hid (HB3.out.trans (hb4.mono HB3.out.size))
          clear hb4 e0 e1 e2 e3 e4 e5
          go_wp2_with fail
          go_roundw
          case rel => exact ⟨0 + 1, HJ.out, rfl, by go_num, Lib.hid (HBj.out.trans (HB4.out.mono HBj.out.size))⟩
          case measure => have := HJ.out; go_light; simp [intOf]; omega
      · obtain ⟨m, hm⟩ : ∃ m : Nat, j = m + 1 := ⟨j - 1, by omega⟩
        have hmL : m < ops.length := by have := HJ.out; omega
        have e6 := (show CodeBox w3 w.heap.size pc many (.slice (some ⟨g, 0, none⟩) ops.length cap) from (HB3.out.block _ HSZj.out).trans HBXj.out).cells.2.2
        have e7 := ((HOj.out.of_block (HB3.out.block g HOj.out.lt)).cells m hmL).2.2.2.2.2
        have hat := HAT0.out m hmL hm
        have hln : ops.length ≤ 100 := HC.out.len
        cases hlast : decide (j + 1 = ops.length) with
        | true =>
          rw [hlast] at HI
          have hzj : (ops.length : Int) - 1 = (m : Int) + 1 := by have := of_decide_eq_true hlast; omega
          clear hlast
          refine wp_mono (ck_next_last (K := Kc) _ _ _ _ _ _ _ _ _ _ _ _ _ _ _ _ _ _ _ _ _ _ _ _ _ _ _ _ _ _ _ _ _ _ _ _ _ _ _ _ _ _ _ _ _ _ _ _ _ _ _ _ _ _ _ _ _ _ _ _ _ _ _ _ _ _ _ _ _ _ _ _ _ _ _ _ _ _ _ _ _ _ _ _ _ _ _ _ e0 e1 e2 e3 e4 e5 e6 e7 hm hmL hln (by omega) hzj HI (Lib.hid (fun u56 u57 u58 u59 u60 u61 u62 u63 u64 u65 u66 u67 u68 u69 u70 u71 u72 u73 u74 u75 u76 u77 u78 u79 u80 u81 u82 w4 hb4 => ?_))) (fun e a w h => by cases e <;> first | exact h | exact False.elim h)
          refine hKc _ _ ?_
          have HB4 := Lib.hid (HB3.out.trans (hb4.mono HB3.out.size))
          clear hb4 e0 e1 e2 e3 e4 e5 e6 e7 hm hmL hln hat hzj
          go_wp2_with fail
          go_roundw
          case rel => exact ⟨j + 1, HJ.out, rfl, by go_num, Lib.hid (HBj.out.trans (HB4.out.mono HBj.out.size))⟩
          case measure => have := HJ.out; go_light; simp [intOf]; omega
        | false =>
          rw [hlast] at HI
          clear hlast
          refine wp_mono (ck_next_mid (K := Kc) _ _ _ _ _ _ _ _ _ _ _ _ _ _ _ _ _ _ _ _ _ _ _ _ _ _ _ _ _ _ _ _ _ _ _ _ _ _ _ _ _ _ _ _ _ _ _ _ _ _ _ _ _ _ _ _ _ _ _ _ _ _ _ _ _ _ _ _ _ _ _ _ _ _ _ _ _ _ _ _ _ _ _ _ _ _ _ _ e0 e1 e2 e3 e4 e5 e6 e7 hm hmL hln (by omega) HI (Lib.hid (fun u56 u57 u58 u59 u60 u61 u62 u63 u64 u65 u66 u67 u68 u69 u70 u71 u72 u73 u74 u75 u76 u77 u78 u79 u80 u81 u82 w4 hb4 => ?_))) (fun e a w h => by cases e <;> first | exact h | exact False.elim h)
          refine hKc _ _ ?_
          have HB4 := Lib.hid (HB3.out.trans (hb4.mono HB3.out.size))
          clear hb4 e0 e1 e2 e3 e4 e5 e6 e7 hm hmL hln hat
          go_wp2_with fail
          go_roundw
          case rel => exact ⟨j + 1, HJ.out, rfl, by go_num, Lib.hid (HBj.out.trans (HB4.out.mono HBj.out.size))⟩
          case measure => have := HJ.out; go_light; simp [intOf]; omega
    · obtain rfl : j = ops.length := by omega
      have hd : decide ((ops.length : Int) < (ops.length : Int)) = false := decide_eq_false (by omega)
      go_wp2
      go_ret
      exact ⟨rfl, HB2.out.trans (HBj.out.mono HB2.out.size)⟩
end Go.Proofs.YtadoaldnjnkhgaaGreatDoor
namespace Go.Proofs.YtadoaldnjnkhgaaGreatDoor
open Go.RowKit
def Adds (w0 w : World) (lb : Nat) (pc : Int) (n : Nat) (ops : List OpN) (e : Ending) (w' : World) : Prop := e = .returned (.tuple #[]) ∧ KeptT w w' ∧ ∃ ov', LwW w0 w' lb pc n ov' ops
section
variable {w0 w : World} {lb : Nat} {pc : Int} {n : Nat} {ov : Value} {ops : List OpN}
theorem sum_any (h : LwW w0 w lb pc n ov ops) (hl : ops.length < 1000) (k : OpK) (d a b : Nat) :
    Calls Tryz.prog 81 #[.pointer (some ⟨lb, 0, none⟩), .string (bsl k.text), .int .i64 (d : Int), .int .i64 (a : Int), .int .i64 (b : Int)] w fun e w' => Adds w0 w lb pc n (ops ++ sumOp k d a b n) e w' := by
  have HD := Lib.hid (do_any h hl k d a (b : Int) 0)
  have HL := Lib.hid h
  clear h hl
  obtain ⟨kt, hkt⟩ : ∃ kt, bsl k.text = kt := ⟨_, rfl⟩
  rw [hkt] at HD ⊢
  clear hkt
  by_cases h0 : d = 0
  · subst h0
    have HS : Hid (sumOp k 0 a b n = []) := rfl
    go_enter Tryz.func81, Tryz.ntmps81
    go_wp2
    go_end0
    exact ⟨rfl, KeptT.refl _, ov, by rw [HS.out, List.append_nil]; exact HL.out⟩
  · have h0' : ((d : Int) != 0) = true := bne_iff_ne.2 (by omega)
    have HS : Hid (sumOp k d a b n = [⟨k, d, a, (b : Int), 0, n⟩]) := if_neg h0
    clear h0
    go_enter Tryz.func81, Tryz.ntmps81
    go_wp2_with fail
    refine HD.out.mono ?_
    rintro e w1 ⟨rfl, hK, ov', hL⟩
    have HL2 := Lib.hid hL
    have HK2 := Lib.hid hK
    clear hL hK
    go_wp2
    go_end0
    exact ⟨rfl, HK2.out, ov', by rw [HS.out]; exact HL2.out⟩
theorem set_any (h : LwW w0 w lb pc n ov ops) (hl : ops.length < 1000) (d : Nat) (v : Int) :
    Calls Tryz.prog 45 #[.pointer (some ⟨lb, 0, none⟩), .int .i64 (d : Int), .int .u32 v] w fun e w' => Adds w0 w lb pc n (ops ++ setOp d v n) e w' := by
  have HD := Lib.hid (do_any h hl .set d 0 0 v)
  have HL := Lib.hid h
  clear h hl
  by_cases h0 : d = 0
  · subst h0
    have HS : Hid (setOp 0 v n = []) := rfl
    go_enter Tryz.func45, Tryz.ntmps45
    go_wp2
    go_end0
    exact ⟨rfl, KeptT.refl _, ov, by rw [HS.out, List.append_nil]; exact HL.out⟩
  · have h0' : ((d : Int) != 0) = true := bne_iff_ne.2 (by omega)
    have HS : Hid (setOp d v n = [⟨.set, d, 0, 0, v, n⟩]) := if_neg h0
    clear h0
    go_enter Tryz.func45, Tryz.ntmps45
    go_wp2_with fail
    refine HD.out.mono ?_
    rintro e w1 ⟨rfl, hK, ov', hL⟩
    have HL2 := Lib.hid hL
    have HK2 := Lib.hid hK
    clear hL hK
    go_wp2
    go_end0
    exact ⟨rfl, HK2.out, ov', by rw [HS.out]; exact HL2.out⟩
theorem copy_any (h : LwW w0 w lb pc n ov ops) (hl : ops.length < 1000) (d a : Nat) :
    Calls Tryz.prog 125 #[.pointer (some ⟨lb, 0, none⟩), .int .i64 (d : Int), .int .i64 (a : Int)] w fun e w' => Adds w0 w lb pc n (ops ++ copyOp d a n) e w' := by
  have HD := Lib.hid (do_any h hl .copy d a 0 0)
  have HL := Lib.hid h
  clear h hl
  by_cases h0 : d = 0
  · subst h0
    have HS : Hid (copyOp 0 a n = []) := rfl
    go_enter Tryz.func125, Tryz.ntmps125
    go_wp2
    go_end0
    exact ⟨rfl, KeptT.refl _, ov, by rw [HS.out, List.append_nil]; exact HL.out⟩
  · have h0' : ((d : Int) != 0) = true := bne_iff_ne.2 (by omega)
    have HS : Hid (copyOp d a n = [⟨.copy, d, a, 0, 0, n⟩]) := if_neg h0
    clear h0
    go_enter Tryz.func125, Tryz.ntmps125
    go_wp2_with fail
    refine HD.out.mono ?_
    rintro e w1 ⟨rfl, hK, ov', hL⟩
    have HL2 := Lib.hid hL
    have HK2 := Lib.hid hK
    clear hL hK
    go_wp2
    go_end0
    exact ⟨rfl, HK2.out, ov', by rw [HS.out]; exact HL2.out⟩
end
theorem wide16_any (v : Int) (h0 : 0 ≤ v) (h1 : v < 4294967296) (w : World) :
    Calls Tryz.prog 46 #[.int .u32 v, .int .i64 16, .bool true] w fun e w' => e = .returned (.int .u32 (wideS v)) ∧ w = w' := by
  go_enter Tryz.func46, Tryz.ntmps46
  go_wp2
  go_ret
  refine ⟨congrArg (fun z => Ending.returned (.int .u32 z)) ?_, rfl⟩
  unfold wrap32 wideS
  split <;> omega
def sizeT (op : Nat) : Nat × Bool := match op with
  | 46 => (1, true) | 47 => (2, true) | 49 => (1, false) | 51 => (1, false) | 50 => (2, false) | 52 => (2, false) | _ => (4, false)
theorem size_any (op : Nat) (h : op ∈ [46, 47, 48, 49, 50, 51, 52, 53]) (w : World) :
    Calls Tryz.prog 48 #[.int .i64 (op : Int)] w fun e w' => e = .returned (.tuple #[.int .i64 ((sizeT op).1 : Int), .bool (sizeT op).2]) ∧ w = w' := by
  simp only [List.mem_cons, List.not_mem_nil, or_false] at h
  rcases h with rfl | rfl | rfl | rfl | rfl | rfl | rfl | rfl
  all_goals
    go_enter Tryz.func48, Tryz.ntmps48
    go_wp2
    go_ret2
    exact ⟨rfl, rfl⟩
set_option maxHeartbeats 2000000 in
theorem kinds_any (op : Nat) (h : op ∈ [1, 2, 3, 4, 5, 6, 20, 22, 23, 24, 25, 26, 27, 28, 35, 36, 37, 38, 39, 40, 41]) (w : World) :
    Calls Tryz.prog 82 #[.int .i64 (op : Int)] w fun e w' => e = .returned (.string (bsl (sumK op).text)) ∧ w = w' := by
  simp only [List.mem_cons, List.not_mem_nil, or_false] at h
  rcases h with rfl | rfl | rfl | rfl | rfl | rfl | rfl | rfl | rfl | rfl | rfl | rfl | rfl | rfl | rfl | rfl | rfl | rfl | rfl | rfl | rfl
  all_goals
    go_enter Tryz.func82, Tryz.ntmps82
    go_wp2
    go_ret
    exact ⟨rfl, rfl⟩
end Go.Proofs.YtadoaldnjnkhgaaGreatDoor
namespace Go.Proofs.YtadoaldnjnkhgaaGreatDoor
open Go.RowKit
set_option maxHeartbeats 4000000
abbrev insA (op s t d : Nat) (m : Int) : Value := .agg #[.int .i64 (op : Int), .int .i64 (s : Int), .int .i64 (t : Int), .int .i64 (d : Int), .int .u32 m]
abbrev InsB (w : World) (b op s t d : Nat) (m : Int) : Prop := Five w b 61 (.int .i64 (op : Int)) (.int .i64 (s : Int)) (.int .i64 (t : Int)) (.int .i64 (d : Int)) (.int .u32 m)
theorem InsB.kept {w w' : World} {b op s t d : Nat} {m : Int} (h : InsB w b op s t d m) (hk : KeptT w w') : InsB w' b op s t d m := hk b _ _ _ h (by decide) (by decide)
abbrev boxW (w : World) (op s t d : Nat) (m : Int) : World := w.alloc (.cells #[.int .i64 (op : Int), .int .i64 (s : Int), .int .i64 (t : Int), .int .i64 (d : Int), .int .u32 m] 61)
theorem boxW.kept {w w' : World} {op s t d : Nat} {m : Int} (h : KeptT (boxW w op s t d m) w') : KeptT w w' := (KeptT.of_below ((Below.refl w.heap.size w).alloc (Nat.le_refl _) _)).trans h
theorem LwW.box {w0 w : World} {lb : Nat} {pc : Int} {n : Nat} {ov : Value} {ops : List OpN} (h : LwW w0 w lb pc n ov ops) (op s t d : Nat) (m : Int) : LwW w0 (boxW w op s t d m) lb pc n ov ops := h.trans ((Below.refl w.heap.size w).alloc (Nat.le_refl _) _)
section
variable {w0 w : World} {lb : Nat} {pc : Int} {n : Nat} {ov : Value} {ops : List OpN}
theorem long15 (h : LwW w0 w lb pc n ov ops) (hl : ops.length < 900) (s t d : Nat) (m : Int) :
    Calls Tryz.prog 83 #[.pointer (some ⟨lb, 0, none⟩), insA 15 s t d m] w fun e w' => Adds w0 w lb pc n (ops ++ lowIns 15 s t d m n) e w' := by
  have HD := Lib.hid (do_any (h.box 15 s t d m) (by omega) .mulh 32 s (t : Int) 0)
  have HF : InsB (boxW w 15 s t d m) w.heap.size 15 s t d m := Five.new w _ _ _ _ _ _
  have HLN := Lib.hid hl
  clear h hl
  go_enter Tryz.func83, Tryz.ntmps83
  go_wp2_with fail
  refine HD.out.mono ?_
  rintro e w1 ⟨rfl, hK, ov1, hL⟩
  have HF1 := HF.kept hK
  obtain ⟨c0, c1, c2, c3, c4⟩ := Five.cells HF1
  have HD2 := Lib.hid (do_any hL (by rw [List.length_append]; have := HLN.out; simp; omega) .mul 33 s (t : Int) 0)
  have HK := Lib.hid hK
  clear hL hK HF1
  go_wp2_with fail
  refine HD2.out.mono ?_
  rintro e w2 ⟨rfl, hK, ov2, hL⟩
  have HL2 := Lib.hid hL
  have HK2 := Lib.hid hK
  clear hL hK
  go_wp2
  go_end0
  exact ⟨rfl, boxW.kept (HK.out.trans HK2.out), ov2, by have := HL2.out; rw [List.append_assoc] at this; exact this⟩
theorem long16 (h : LwW w0 w lb pc n ov ops) (hl : ops.length < 900) (s t d : Nat) (m : Int) :
    Calls Tryz.prog 83 #[.pointer (some ⟨lb, 0, none⟩), insA 16 s t d m] w fun e w' => Adds w0 w lb pc n (ops ++ lowIns 16 s t d m n) e w' := by
  have HD := Lib.hid (do_any (h.box 16 s t d m) (by omega) .mulhu 32 s (t : Int) 0)
  have HF : InsB (boxW w 16 s t d m) w.heap.size 16 s t d m := Five.new w _ _ _ _ _ _
  have HLN := Lib.hid hl
  clear h hl
  go_enter Tryz.func83, Tryz.ntmps83
  go_wp2_with fail
  refine HD.out.mono ?_
  rintro e w1 ⟨rfl, hK, ov1, hL⟩
  have HF1 := HF.kept hK
  obtain ⟨c0, c1, c2, c3, c4⟩ := Five.cells HF1
  have HD2 := Lib.hid (do_any hL (by rw [List.length_append]; have := HLN.out; simp; omega) .mul 33 s (t : Int) 0)
  have HK := Lib.hid hK
  clear hL hK HF1
  go_wp2_with fail
  refine HD2.out.mono ?_
  rintro e w2 ⟨rfl, hK, ov2, hL⟩
  have HL2 := Lib.hid hL
  have HK2 := Lib.hid hK
  clear hL hK
  go_wp2
  go_end0
  exact ⟨rfl, boxW.kept (HK.out.trans HK2.out), ov2, by have := HL2.out; rw [List.append_assoc] at this; exact this⟩
theorem long17 (h : LwW w0 w lb pc n ov ops) (hl : ops.length < 900) (s t d : Nat) (m : Int) :
    Calls Tryz.prog 83 #[.pointer (some ⟨lb, 0, none⟩), insA 17 s t d m] w fun e w' => Adds w0 w lb pc n (ops ++ lowIns 17 s t d m n) e w' := by
  have HD := Lib.hid (do_any (h.box 17 s t d m) (by omega) .quo 33 s (t : Int) 0)
  have HF : InsB (boxW w 17 s t d m) w.heap.size 17 s t d m := Five.new w _ _ _ _ _ _
  have HLN := Lib.hid hl
  clear h hl
  go_enter Tryz.func83, Tryz.ntmps83
  go_wp2_with fail
  refine HD.out.mono ?_
  rintro e w1 ⟨rfl, hK, ov1, hL⟩
  have HF1 := HF.kept hK
  obtain ⟨c0, c1, c2, c3, c4⟩ := Five.cells HF1
  have HD2 := Lib.hid (do_any hL (by rw [List.length_append]; have := HLN.out; simp; omega) .rem 32 s (t : Int) 0)
  have HK := Lib.hid hK
  clear hL hK HF1
  go_wp2_with fail
  refine HD2.out.mono ?_
  rintro e w2 ⟨rfl, hK, ov2, hL⟩
  have HL2 := Lib.hid hL
  have HK2 := Lib.hid hK
  clear hL hK
  go_wp2
  go_end0
  exact ⟨rfl, boxW.kept (HK.out.trans HK2.out), ov2, by have := HL2.out; rw [List.append_assoc] at this; exact this⟩
theorem long18 (h : LwW w0 w lb pc n ov ops) (hl : ops.length < 900) (s t d : Nat) (m : Int) :
    Calls Tryz.prog 83 #[.pointer (some ⟨lb, 0, none⟩), insA 18 s t d m] w fun e w' => Adds w0 w lb pc n (ops ++ lowIns 18 s t d m n) e w' := by
  have HD := Lib.hid (do_any (h.box 18 s t d m) (by omega) .quou 33 s (t : Int) 0)
  have HF : InsB (boxW w 18 s t d m) w.heap.size 18 s t d m := Five.new w _ _ _ _ _ _
  have HLN := Lib.hid hl
  clear h hl
  go_enter Tryz.func83, Tryz.ntmps83
  go_wp2_with fail
  refine HD.out.mono ?_
  rintro e w1 ⟨rfl, hK, ov1, hL⟩
  have HF1 := HF.kept hK
  obtain ⟨c0, c1, c2, c3, c4⟩ := Five.cells HF1
  have HD2 := Lib.hid (do_any hL (by rw [List.length_append]; have := HLN.out; simp; omega) .remu 32 s (t : Int) 0)
  have HK := Lib.hid hK
  clear hL hK HF1
  go_wp2_with fail
  refine HD2.out.mono ?_
  rintro e w2 ⟨rfl, hK, ov2, hL⟩
  have HL2 := Lib.hid hL
  have HK2 := Lib.hid hK
  clear hL hK
  go_wp2
  go_end0
  exact ⟨rfl, boxW.kept (HK.out.trans HK2.out), ov2, by have := HL2.out; rw [List.append_assoc] at this; exact this⟩
theorem long11 (h : LwW w0 w lb pc n ov ops) (hl : ops.length < 900) (s t d : Nat) (m : Int) :
    Calls Tryz.prog 83 #[.pointer (some ⟨lb, 0, none⟩), insA 11 s t d m] w fun e w' => Adds w0 w lb pc n (ops ++ lowIns 11 s t d m n) e w' := by
  have HD := Lib.hid (copy_any (h.box 11 s t d m) (by omega) d 32)
  have HLN := Lib.hid hl
  clear h hl
  go_enter Tryz.func83, Tryz.ntmps83
  go_wp2_with fail
  refine HD.out.mono ?_
  rintro e w1 ⟨rfl, hK, ov1, hL⟩
  have HL2 := Lib.hid hL
  have HK2 := Lib.hid hK
  clear hL hK
  go_wp2
  go_end0
  exact ⟨rfl, boxW.kept HK2.out, ov1, HL2.out⟩
theorem long13 (h : LwW w0 w lb pc n ov ops) (hl : ops.length < 900) (s t d : Nat) (m : Int) :
    Calls Tryz.prog 83 #[.pointer (some ⟨lb, 0, none⟩), insA 13 s t d m] w fun e w' => Adds w0 w lb pc n (ops ++ lowIns 13 s t d m n) e w' := by
  have HD := Lib.hid (copy_any (h.box 13 s t d m) (by omega) d 33)
  have HLN := Lib.hid hl
  clear h hl
  go_enter Tryz.func83, Tryz.ntmps83
  go_wp2_with fail
  refine HD.out.mono ?_
  rintro e w1 ⟨rfl, hK, ov1, hL⟩
  have HL2 := Lib.hid hL
  have HK2 := Lib.hid hK
  clear hL hK
  go_wp2
  go_end0
  exact ⟨rfl, boxW.kept HK2.out, ov1, HL2.out⟩
theorem long12 (h : LwW w0 w lb pc n ov ops) (hl : ops.length < 900) (s t d : Nat) (m : Int) :
    Calls Tryz.prog 83 #[.pointer (some ⟨lb, 0, none⟩), insA 12 s t d m] w fun e w' => Adds w0 w lb pc n (ops ++ lowIns 12 s t d m n) e w' := by
  have HD := Lib.hid (copy_any (h.box 12 s t d m) (by omega) 32 s)
  have HLN := Lib.hid hl
  clear h hl
  go_enter Tryz.func83, Tryz.ntmps83
  go_wp2_with fail
  refine HD.out.mono ?_
  rintro e w1 ⟨rfl, hK, ov1, hL⟩
  have HL2 := Lib.hid hL
  have HK2 := Lib.hid hK
  clear hL hK
  go_wp2
  go_end0
  exact ⟨rfl, boxW.kept HK2.out, ov1, HL2.out⟩
theorem long14 (h : LwW w0 w lb pc n ov ops) (hl : ops.length < 900) (s t d : Nat) (m : Int) :
    Calls Tryz.prog 83 #[.pointer (some ⟨lb, 0, none⟩), insA 14 s t d m] w fun e w' => Adds w0 w lb pc n (ops ++ lowIns 14 s t d m n) e w' := by
  have HD := Lib.hid (copy_any (h.box 14 s t d m) (by omega) 33 s)
  have HLN := Lib.hid hl
  clear h hl
  go_enter Tryz.func83, Tryz.ntmps83
  go_wp2_with fail
  refine HD.out.mono ?_
  rintro e w1 ⟨rfl, hK, ov1, hL⟩
  have HL2 := Lib.hid hL
  have HK2 := Lib.hid hK
  clear hL hK
  go_wp2
  go_end0
  exact ⟨rfl, boxW.kept HK2.out, ov1, HL2.out⟩
end
end Go.Proofs.YtadoaldnjnkhgaaGreatDoor
namespace Go.Proofs.YtadoaldnjnkhgaaGreatDoor
open Go.RowKit
set_option maxHeartbeats 4000000
theorem immOf_any (op s t d : Nat) (m : Int) (h0 : 0 ≤ m) (h1 : m < 4294967296) (w : World) :
    Calls Tryz.prog 134 #[insA op s t d m] w fun e w' => e = .returned (.int .u32 (wideS m)) ∧ Below w.heap.size w w' := by
  have HW := Lib.hid (fun wx => wideK_any m 16 true h0 h1 (by decide) (by decide) wx)
  have hb := (Below.refl w.heap.size w).alloc (Nat.le_refl _) (.cells #[.int .i64 (op : Int), .int .i64 (s : Int), .int .i64 (t : Int), .int .i64 (d : Int), .int .u32 m] 61)
  have HB := Lib.hid hb
  clear hb
  go_enter Tryz.func134, Tryz.ntmps134
  go_wp2_with fail
  refine (HW.out _).mono ?_
  rintro e w1 ⟨rfl, rfl⟩
  rw [wideS_K]
  go_wp2
  go_ret
  exact ⟨rfl, HB.out⟩
def sizeS (op : Nat) : Int := match op with
  | 46 => -1 | 47 => -2 | 49 => 1 | 51 => 1 | 50 => 2 | 52 => 2 | _ => 4
theorem sizeOf_46 (w : World) : Calls Tryz.prog 135 #[.int .i64 46] w fun e w' => e = .returned (.int .i64 (-1)) ∧ w = w' := by
  go_enter Tryz.func135, Tryz.ntmps135
  go_wp2
  go_ret
  exact ⟨rfl, rfl⟩
theorem sizeOf_47 (w : World) : Calls Tryz.prog 135 #[.int .i64 47] w fun e w' => e = .returned (.int .i64 (-2)) ∧ w = w' := by
  go_enter Tryz.func135, Tryz.ntmps135
  go_wp2
  go_ret
  exact ⟨rfl, rfl⟩
theorem sizeOf_48 (w : World) : Calls Tryz.prog 135 #[.int .i64 48] w fun e w' => e = .returned (.int .i64 (4)) ∧ w = w' := by
  go_enter Tryz.func135, Tryz.ntmps135
  go_wp2
  go_ret
  exact ⟨rfl, rfl⟩
theorem sizeOf_49 (w : World) : Calls Tryz.prog 135 #[.int .i64 49] w fun e w' => e = .returned (.int .i64 (1)) ∧ w = w' := by
  go_enter Tryz.func135, Tryz.ntmps135
  go_wp2
  go_ret
  exact ⟨rfl, rfl⟩
theorem sizeOf_50 (w : World) : Calls Tryz.prog 135 #[.int .i64 50] w fun e w' => e = .returned (.int .i64 (2)) ∧ w = w' := by
  go_enter Tryz.func135, Tryz.ntmps135
  go_wp2
  go_ret
  exact ⟨rfl, rfl⟩
theorem sizeOf_51 (w : World) : Calls Tryz.prog 135 #[.int .i64 51] w fun e w' => e = .returned (.int .i64 (1)) ∧ w = w' := by
  go_enter Tryz.func135, Tryz.ntmps135
  go_wp2
  go_ret
  exact ⟨rfl, rfl⟩
theorem sizeOf_52 (w : World) : Calls Tryz.prog 135 #[.int .i64 52] w fun e w' => e = .returned (.int .i64 (2)) ∧ w = w' := by
  go_enter Tryz.func135, Tryz.ntmps135
  go_wp2
  go_ret
  exact ⟨rfl, rfl⟩
theorem sizeOf_53 (w : World) : Calls Tryz.prog 135 #[.int .i64 53] w fun e w' => e = .returned (.int .i64 (4)) ∧ w = w' := by
  go_enter Tryz.func135, Tryz.ntmps135
  go_wp2
  go_ret
  exact ⟨rfl, rfl⟩
theorem kindS_1 (w : World) : Calls Tryz.prog 138 #[.int .i64 1] w fun e w' => e = .returned (.string (bsl (OpK.text .shl))) ∧ w = w' := by
  go_enter Tryz.func138, Tryz.ntmps138
  go_wp2
  go_ret
  exact ⟨rfl, rfl⟩
theorem kindS_4 (w : World) : Calls Tryz.prog 138 #[.int .i64 4] w fun e w' => e = .returned (.string (bsl (OpK.text .shl))) ∧ w = w' := by
  go_enter Tryz.func138, Tryz.ntmps138
  go_wp2
  go_ret
  exact ⟨rfl, rfl⟩
theorem kindS_2 (w : World) : Calls Tryz.prog 138 #[.int .i64 2] w fun e w' => e = .returned (.string (bsl (OpK.text .shr))) ∧ w = w' := by
  go_enter Tryz.func138, Tryz.ntmps138
  go_wp2
  go_ret
  exact ⟨rfl, rfl⟩
theorem kindS_5 (w : World) : Calls Tryz.prog 138 #[.int .i64 5] w fun e w' => e = .returned (.string (bsl (OpK.text .shr))) ∧ w = w' := by
  go_enter Tryz.func138, Tryz.ntmps138
  go_wp2
  go_ret
  exact ⟨rfl, rfl⟩
theorem kindS_3 (w : World) : Calls Tryz.prog 138 #[.int .i64 3] w fun e w' => e = .returned (.string (bsl (OpK.text .sar))) ∧ w = w' := by
  go_enter Tryz.func138, Tryz.ntmps138
  go_wp2
  go_ret
  exact ⟨rfl, rfl⟩
theorem kindS_6 (w : World) : Calls Tryz.prog 138 #[.int .i64 6] w fun e w' => e = .returned (.string (bsl (OpK.text .sar))) ∧ w = w' := by
  go_enter Tryz.func138, Tryz.ntmps138
  go_wp2
  go_ret
  exact ⟨rfl, rfl⟩
theorem kindS_19 (w : World) : Calls Tryz.prog 138 #[.int .i64 19] w fun e w' => e = .returned (.string (bsl (OpK.text .add))) ∧ w = w' := by
  go_enter Tryz.func138, Tryz.ntmps138
  go_wp2
  go_ret
  exact ⟨rfl, rfl⟩
theorem kindS_20 (w : World) : Calls Tryz.prog 138 #[.int .i64 20] w fun e w' => e = .returned (.string (bsl (OpK.text .add))) ∧ w = w' := by
  go_enter Tryz.func138, Tryz.ntmps138
  go_wp2
  go_ret
  exact ⟨rfl, rfl⟩
theorem kindS_35 (w : World) : Calls Tryz.prog 138 #[.int .i64 35] w fun e w' => e = .returned (.string (bsl (OpK.text .add))) ∧ w = w' := by
  go_enter Tryz.func138, Tryz.ntmps138
  go_wp2
  go_ret
  exact ⟨rfl, rfl⟩
theorem kindS_36 (w : World) : Calls Tryz.prog 138 #[.int .i64 36] w fun e w' => e = .returned (.string (bsl (OpK.text .add))) ∧ w = w' := by
  go_enter Tryz.func138, Tryz.ntmps138
  go_wp2
  go_ret
  exact ⟨rfl, rfl⟩
theorem kindS_21 (w : World) : Calls Tryz.prog 138 #[.int .i64 21] w fun e w' => e = .returned (.string (bsl (OpK.text .sub))) ∧ w = w' := by
  go_enter Tryz.func138, Tryz.ntmps138
  go_wp2
  go_ret
  exact ⟨rfl, rfl⟩
theorem kindS_22 (w : World) : Calls Tryz.prog 138 #[.int .i64 22] w fun e w' => e = .returned (.string (bsl (OpK.text .sub))) ∧ w = w' := by
  go_enter Tryz.func138, Tryz.ntmps138
  go_wp2
  go_ret
  exact ⟨rfl, rfl⟩
theorem kindS_23 (w : World) : Calls Tryz.prog 138 #[.int .i64 23] w fun e w' => e = .returned (.string (bsl (OpK.text .and))) ∧ w = w' := by
  go_enter Tryz.func138, Tryz.ntmps138
  go_wp2
  go_ret
  exact ⟨rfl, rfl⟩
theorem kindS_39 (w : World) : Calls Tryz.prog 138 #[.int .i64 39] w fun e w' => e = .returned (.string (bsl (OpK.text .and))) ∧ w = w' := by
  go_enter Tryz.func138, Tryz.ntmps138
  go_wp2
  go_ret
  exact ⟨rfl, rfl⟩
theorem kindS_24 (w : World) : Calls Tryz.prog 138 #[.int .i64 24] w fun e w' => e = .returned (.string (bsl (OpK.text .or))) ∧ w = w' := by
  go_enter Tryz.func138, Tryz.ntmps138
  go_wp2
  go_ret
  exact ⟨rfl, rfl⟩
theorem kindS_40 (w : World) : Calls Tryz.prog 138 #[.int .i64 40] w fun e w' => e = .returned (.string (bsl (OpK.text .or))) ∧ w = w' := by
  go_enter Tryz.func138, Tryz.ntmps138
  go_wp2
  go_ret
  exact ⟨rfl, rfl⟩
theorem kindS_25 (w : World) : Calls Tryz.prog 138 #[.int .i64 25] w fun e w' => e = .returned (.string (bsl (OpK.text .xor))) ∧ w = w' := by
  go_enter Tryz.func138, Tryz.ntmps138
  go_wp2
  go_ret
  exact ⟨rfl, rfl⟩
theorem kindS_41 (w : World) : Calls Tryz.prog 138 #[.int .i64 41] w fun e w' => e = .returned (.string (bsl (OpK.text .xor))) ∧ w = w' := by
  go_enter Tryz.func138, Tryz.ntmps138
  go_wp2
  go_ret
  exact ⟨rfl, rfl⟩
theorem kindS_26 (w : World) : Calls Tryz.prog 138 #[.int .i64 26] w fun e w' => e = .returned (.string (bsl (OpK.text .nor))) ∧ w = w' := by
  go_enter Tryz.func138, Tryz.ntmps138
  go_wp2
  go_ret
  exact ⟨rfl, rfl⟩
theorem kindS_27 (w : World) : Calls Tryz.prog 138 #[.int .i64 27] w fun e w' => e = .returned (.string (bsl (OpK.text .slt))) ∧ w = w' := by
  go_enter Tryz.func138, Tryz.ntmps138
  go_wp2
  go_ret
  exact ⟨rfl, rfl⟩
theorem kindS_37 (w : World) : Calls Tryz.prog 138 #[.int .i64 37] w fun e w' => e = .returned (.string (bsl (OpK.text .slt))) ∧ w = w' := by
  go_enter Tryz.func138, Tryz.ntmps138
  go_wp2
  go_ret
  exact ⟨rfl, rfl⟩
theorem kindS_28 (w : World) : Calls Tryz.prog 138 #[.int .i64 28] w fun e w' => e = .returned (.string (bsl (OpK.text .sltu))) ∧ w = w' := by
  go_enter Tryz.func138, Tryz.ntmps138
  go_wp2
  go_ret
  exact ⟨rfl, rfl⟩
theorem kindS_38 (w : World) : Calls Tryz.prog 138 #[.int .i64 38] w fun e w' => e = .returned (.string (bsl (OpK.text .sltu))) ∧ w = w' := by
  go_enter Tryz.func138, Tryz.ntmps138
  go_wp2
  go_ret
  exact ⟨rfl, rfl⟩
end Go.Proofs.YtadoaldnjnkhgaaGreatDoor
namespace Go.Proofs.YtadoaldnjnkhgaaGreatDoor
open Go.RowKit
theorem Tryz.infoU : (Tryz.prog.info? 22).map (fun i => (i.zero, i.size, i.bytes)) = some (some (.int .u32 0), 1, 4) := by kernel_rfl
theorem Tryz.infoBo : (Tryz.prog.info? 4).map (fun i => (i.zero, i.size, i.bytes)) = some (some (.bool false), 1, 1) := by kernel_rfl
theorem made_row (z : Value) (n : Nat) : ∃ mc : Array Value, (madeCells #[z] n = mc) ∧ mc.size = n ∧ ∀ i, i < n → mc[i]? = some z := by
  refine ⟨_, rfl, by simp [size_madeCells], fun i hi => ?_⟩
  simp [madeCells, hi, Nat.mod_one]
def fillW (us : List Int) (i : Nat) : List Int := us.take i ++ List.replicate (4096 - i) 0
theorem fillW_len (us : List Int) {i : Nat} (h : i ≤ us.length) (h2 : i ≤ 4096) : (fillW us i).length = 4096 := by
  unfold fillW
  rw [List.length_append, List.length_take, List.length_replicate]
  omega
theorem fillW_set (us : List Int) {i : Nat} (h : i < us.length) (h2 : i < 4096) : (fillW us i).set i us[i] = fillW us (i + 1) := by
  unfold fillW
  have e : 4096 - i = (4096 - (i + 1)) + 1 := by omega
  rw [e, List.replicate_succ, List.take_add_one, List.getElem?_eq_getElem h]
  have hl : (us.take i).length = i := by rw [List.length_take]; omega
  rw [List.set_append_right _ _ (by omega), hl, Nat.sub_self, List.set_cons_zero, List.append_assoc]
  rfl
theorem fillW_ok {us : List Int} (h : WsOK us) (i : Nat) : WsOK (fillW us i) := by
  intro z hz
  unfold fillW at hz
  rcases List.mem_append.1 hz with hz | hz
  · exact h z (List.mem_of_mem_take hz)
  · rw [List.eq_of_mem_replicate hz]
    exact r32_0
def padW (us : List Int) : List Int := fillW us (min us.length 4096)
theorem padW_id {us : List Int} (h : us.length = 4096) : padW us = us := by
  unfold padW fillW
  rw [h, Nat.min_self, Nat.sub_self, List.replicate_zero, List.append_nil, ← h, List.take_length]
theorem ram_made (w : World) {mb mc : Array Value} (h1 : mc.size = 4096) (h2 : ∀ i, i < 4096 → mc[i]? = some (.int .u32 0)) (h3 : mb.size = 64) (h4 : ∀ i, i < 64 → mb[i]? = some (.bool false)) (us : List Int) (x y : Nat) (hxy : (x = w.heap.size ∧ y = w.heap.size + 1) ∨ (x = w.heap.size + 1 ∧ y = w.heap.size)) :
    RamM ((((w.alloc (.cells mb 4)).alloc (.cells mb 4)).alloc (.cells #[.slice (some ⟨w.heap.size + 1 + 1 + 1, 0, none⟩) 4096 4096, .slice (some ⟨x, 0, none⟩) 64 64, .slice (some ⟨y, 0, none⟩) 64 64] 58)).alloc (.cells mc 22)) (w.heap.size + 1 + 1) (w.heap.size + 1 + 1 + 1) x y (fillW us 0) (fun _ => false) (fun _ => false) := by
  have e1 : (w.alloc (.cells mb 4)).heap.size = w.heap.size + 1 := by simp
  have b1 := heap_alloc_new w (.cells mb 4)
  generalize w.alloc (.cells mb 4) = w1 at *
  have b2 := heap_alloc_new w1 (.cells mb 4)
  have k2 := (Below.refl w1.heap.size w1).alloc (Nat.le_refl _) (.cells mb 4)
  have e2 : (w1.alloc (.cells mb 4)).heap.size = w.heap.size + 1 + 1 := by simp [e1]
  have b1' := (k2.block w.heap.size (by omega)).trans b1
  rw [e1] at b2
  generalize w1.alloc (.cells mb 4) = w2 at *
  obtain ⟨R, hR⟩ : ∃ R, Obj.cells #[.slice (some ⟨w.heap.size + 1 + 1 + 1, 0, none⟩) 4096 4096, .slice (some ⟨x, 0, none⟩) 64 64, .slice (some ⟨y, 0, none⟩) 64 64] 58 = R := ⟨_, rfl⟩
  have b3 := heap_alloc_new w2 R
  have k3 := (Below.refl w2.heap.size w2).alloc (Nat.le_refl _) R
  have e3 : (w2.alloc R).heap.size = w.heap.size + 1 + 1 + 1 := by simp [e2]
  rw [hR]
  generalize w2.alloc R = w3 at *
  have b4 := heap_alloc_new w3 (.cells mc 22)
  have k4 := (Below.refl w3.heap.size w3).alloc (Nat.le_refl _) (.cells mc 22)
  generalize w3.alloc (.cells mc 22) = w4 at *
  rw [e3] at b4
  rw [e2] at b3
  have hrow1 : Row w4 w.heap.size 4 64 (boolsG fun _ => false) := ⟨mb, (k4.block _ (by omega)).trans ((k3.block _ (by omega)).trans b1'), h3, h4⟩
  have hrow2 : Row w4 (w.heap.size + 1) 4 64 (boolsG fun _ => false) := ⟨mb, (k4.block _ (by omega)).trans ((k3.block _ (by omega)).trans b2), h3, h4⟩
  have hblk := (k4.block (w.heap.size + 1 + 1) (by omega)).trans b3
  rw [← hR] at hblk
  have hw : Row w4 (w.heap.size + 1 + 1 + 1) 22 4096 (wordsG (fillW us 0)) := by
    refine ⟨mc, b4, h1, fun k hk => ?_⟩
    rw [h2 k hk]
    unfold wordsG fillW
    rw [List.take_zero, List.nil_append, List.getD_eq_getElem?_getD, List.getElem?_replicate, if_pos (by omega)]
    rfl
  have hlen : (fillW us 0).length = 4096 := fillW_len us (Nat.zero_le _) (by decide)
  have hok : WsOK (fillW us 0) := by
    intro z hz
    unfold fillW at hz
    rw [List.take_zero, List.nil_append] at hz
    rw [List.eq_of_mem_replicate hz]
    exact r32_0
  rcases hxy with ⟨rfl, rfl⟩ | ⟨rfl, rfl⟩
  · exact ⟨hblk, hw, hrow1, hrow2, by omega, hlen, hok⟩
  · exact ⟨hblk, hw, hrow2, hrow1, by omega, hlen, hok⟩
theorem below4 (w : World) (a b c d : Obj) : Below w.heap.size w ((((w.alloc a).alloc b).alloc c).alloc d) := by
  have h1 := (Below.refl w.heap.size w).alloc (Nat.le_refl _) a
  have h2 := h1.alloc h1.size b
  have h3 := h2.alloc h2.size c
  exact h3.alloc h3.size d
def MadeR (w : World) (ws : List Int) (wt ht : Nat → Bool) (e : Ending) (w' : World) : Prop := ∃ r bw ba bh, e = .returned (.pointer (some ⟨r, 0, none⟩)) ∧ RamM w' r bw ba bh ws wt ht ∧ Below w.heap.size w w' ∧ w.heap.size ≤ r ∧ w.heap.size ≤ bw ∧ w.heap.size ≤ ba ∧ w.heap.size ≤ bh
set_option maxHeartbeats 4000000 in
set_option maxRecDepth 100000 in
theorem newRam_some (b o cap : Nat) (us : List Int) (hl : us.length ≤ 5000) (hus : WsOK us) (w : World) (hc : ∀ k (h : k < us.length), w.cell? ⟨b, o + k, none⟩ = some (.int .u32 us[k])) :
    Calls Tryz.prog 31 #[.slice (some ⟨b, o, none⟩) us.length cap] w fun e w' => MadeR w (padW us) (fun _ => false) (fun _ => false) e w' := by
  obtain ⟨mc, hmc, hmc1, hmc2⟩ := made_row (.int .u32 0) 4096
  obtain ⟨mb, hmb, hmb1, hmb2⟩ := made_row (.bool false) 64
  have hmk : ∀ W : World, (Instr.makeSlice 27 (.int .i64 4096) (.int .i64 4096)).run Tryz.prog W = .ok (.slice (some ⟨W.heap.size, 0, none⟩) 4096 4096) (W.alloc (.cells mc 22)) := by
    intro W
    rw [← hmc]
    exact run_make_row' 27 22 (.int .u32 0) 4 Tryz.underlying27 Tryz.infoU rfl .i64 .i64 4096 (by decide) (by decide) W
  have hmk2 : ∀ W : World, (Instr.makeSlice 56 (.int .i64 64) (.int .i64 64)).run Tryz.prog W = .ok (.slice (some ⟨W.heap.size, 0, none⟩) 64 64) (W.alloc (.cells mb 4)) := by
    intro W
    rw [← hmb]
    exact run_make_row' 56 4 (.bool false) 1 Tryz.underlying56 Tryz.infoBo rfl .i64 .i64 64 (by decide) (by decide) W
  have HC := Lib.hid hc
  have HL := Lib.hid hl
  clear hmc hmb hc hl
  go_enter Tryz.func31, Tryz.ntmps31
  go_wp2_with fail
  go_region_with fail
  · have HR0 := Lib.hid ((ram_made w hmc1 hmc2 hmb1 hmb2 us (w.heap.size) (w.heap.size + 1) (by omega)).drew)
    have HB0 := Lib.hid ((below4 w (.cells mb 4) (.cells mb 4) (.cells #[.slice (some ⟨w.heap.size + 1 + 1 + 1, 0, none⟩) 4096 4096, .slice (some ⟨w.heap.size, 0, none⟩) 64 64, .slice (some ⟨w.heap.size + 1, 0, none⟩) 64 64] 58) (.cells mc 22)).drew)
    go_wp2_with fail
    generalize ((((w.alloc (.cells mb 4)).alloc (.cells mb 4)).alloc (.cells #[.slice (some ⟨w.heap.size + 1 + 1 + 1, 0, none⟩) 4096 4096, .slice (some ⟨w.heap.size, 0, none⟩) 64 64, .slice (some ⟨w.heap.size + 1, 0, none⟩) 64 64] 58)).alloc (.cells mc 22)).drew = W0 at *
    go_loopw [4] (fun i wr => ∃ j : Nat, j ≤ us.length ∧ j ≤ 4096 ∧ i = .int .i64 (j : Int) ∧ Hid (RamM wr (w.heap.size + 1 + 1) (w.heap.size + 1 + 1 + 1) (w.heap.size) (w.heap.size + 1) (fillW us j) (fun _ => false) (fun _ => false)) ∧ Hid (Below w.heap.size w wr)) (fun i _ => 4096 - (intOf i).toNat)
    case atStart => exact ⟨0, Nat.zero_le _, Nat.zero_le _, rfl, HR0, HB0⟩
    case round =>
      obtain ⟨j, hj1, hj2, rfl, HR, HB⟩ := hrel
      have HJ2 := Lib.hid hj2
      clear hj2
      obtain ⟨c0, c1, c2⟩ := HR.out.cells
      by_cases hlt : j < us.length
      · have hltI : (j : Int) < (us.length : Int) := by omega
        by_cases hlt2 : j < 4096
        · have hlt2I : (j : Int) < 4096 := by omega
          have HJ3 := Lib.hid hlt2
          have hcs : wr.cell? ⟨b, o + j, none⟩ = some (.int .u32 us[j]) := (HB.out.cell (World.block_lt_of_cell? _ _ (HC.out j hlt))).trans (HC.out j hlt)
          have hfz := HR.out.words.free j
          have hwc := HR.out.word hlt2
          have HN := Lib.hid ((HR.out.drew.setWord j hlt2 us[j] (hus _ (List.getElem_mem hlt))))
          rw [fillW_set us hlt hlt2] at HN
          have HBN := Lib.hid (HB.out.drew.setCell (p := ⟨w.heap.size + 1 + 1 + 1, j, none⟩) (show w.heap.size ≤ w.heap.size + 1 + 1 + 1 by omega) (Value.int .u32 us[j]))
          have HJL := Lib.hid hlt
          generalize us[j] = uj at *
          have hfd : wr.drew.frozen? ⟨w.heap.size + 1 + 1 + 1, j, none⟩ = false := hfz
          have hwd : wr.drew.cell? ⟨w.heap.size + 1 + 1 + 1, j, none⟩ = some _ := hwc
          clear hlt2
          go_wp2_with fail
          go_still_tail 10, (by kernel_rfl)
          change wpList _ _ _ _ _ wr.drew
          generalize wr.drew = wd at *
          go_wp2
          refine ⟨⟨j + 1, by have := HJL.out; omega, by have := HJ3.out; omega, by go_num, HN, HBN⟩, ?_⟩
          simp [intOf]
          have := HJ3.out
          omega
        · have hlt2I : decide ((j : Int) < 4096) = false := decide_eq_false (by omega)
          have HJ3 := Lib.hid hlt2
          have HE : Hid (fillW us j = padW us) := by
            show _ = _
            have := HJ2.out
            unfold padW
            rw [show min us.length 4096 = j by omega]
          rw [HE.out] at HR
          clear hlt2
          go_wp2
          go_ret
          exact ⟨_, _, _, _, rfl, HR.out, HB.out, by omega, by omega, by omega, by omega⟩
      · have hltI : decide ((j : Int) < (us.length : Int)) = false := decide_eq_false (by omega)
        have HE : Hid (fillW us j = padW us) := by
          show _ = _
          have := HJ2.out
          unfold padW
          rw [show min us.length 4096 = j by omega]
        rw [HE.out] at HR
        go_wp2
        go_ret
        exact ⟨_, _, _, _, rfl, HR.out, HB.out, by omega, by omega, by omega, by omega⟩
  · have HR0 := Lib.hid ((ram_made w hmc1 hmc2 hmb1 hmb2 us (w.heap.size + 1) (w.heap.size) (by omega)).drew)
    have HB0 := Lib.hid ((below4 w (.cells mb 4) (.cells mb 4) (.cells #[.slice (some ⟨w.heap.size + 1 + 1 + 1, 0, none⟩) 4096 4096, .slice (some ⟨w.heap.size + 1, 0, none⟩) 64 64, .slice (some ⟨w.heap.size, 0, none⟩) 64 64] 58) (.cells mc 22)).drew)
    go_wp2_with fail
    generalize ((((w.alloc (.cells mb 4)).alloc (.cells mb 4)).alloc (.cells #[.slice (some ⟨w.heap.size + 1 + 1 + 1, 0, none⟩) 4096 4096, .slice (some ⟨w.heap.size + 1, 0, none⟩) 64 64, .slice (some ⟨w.heap.size, 0, none⟩) 64 64] 58)).alloc (.cells mc 22)).drew = W0 at *
    go_loopw [4] (fun i wr => ∃ j : Nat, j ≤ us.length ∧ j ≤ 4096 ∧ i = .int .i64 (j : Int) ∧ Hid (RamM wr (w.heap.size + 1 + 1) (w.heap.size + 1 + 1 + 1) (w.heap.size + 1) (w.heap.size) (fillW us j) (fun _ => false) (fun _ => false)) ∧ Hid (Below w.heap.size w wr)) (fun i _ => 4096 - (intOf i).toNat)
    case atStart => exact ⟨0, Nat.zero_le _, Nat.zero_le _, rfl, HR0, HB0⟩
    case round =>
      obtain ⟨j, hj1, hj2, rfl, HR, HB⟩ := hrel
      have HJ2 := Lib.hid hj2
      clear hj2
      obtain ⟨c0, c1, c2⟩ := HR.out.cells
      by_cases hlt : j < us.length
      · have hltI : (j : Int) < (us.length : Int) := by omega
        by_cases hlt2 : j < 4096
        · have hlt2I : (j : Int) < 4096 := by omega
          have HJ3 := Lib.hid hlt2
          have hcs : wr.cell? ⟨b, o + j, none⟩ = some (.int .u32 us[j]) := (HB.out.cell (World.block_lt_of_cell? _ _ (HC.out j hlt))).trans (HC.out j hlt)
          have hfz := HR.out.words.free j
          have hwc := HR.out.word hlt2
          have HN := Lib.hid ((HR.out.drew.setWord j hlt2 us[j] (hus _ (List.getElem_mem hlt))))
          rw [fillW_set us hlt hlt2] at HN
          have HBN := Lib.hid (HB.out.drew.setCell (p := ⟨w.heap.size + 1 + 1 + 1, j, none⟩) (show w.heap.size ≤ w.heap.size + 1 + 1 + 1 by omega) (Value.int .u32 us[j]))
          have HJL := Lib.hid hlt
          generalize us[j] = uj at *
          have hfd : wr.drew.frozen? ⟨w.heap.size + 1 + 1 + 1, j, none⟩ = false := hfz
          have hwd : wr.drew.cell? ⟨w.heap.size + 1 + 1 + 1, j, none⟩ = some _ := hwc
          clear hlt2
          go_wp2_with fail
          go_still_tail 10, (by kernel_rfl)
          change wpList _ _ _ _ _ wr.drew
          generalize wr.drew = wd at *
          go_wp2
          refine ⟨⟨j + 1, by have := HJL.out; omega, by have := HJ3.out; omega, by go_num, HN, HBN⟩, ?_⟩
          simp [intOf]
          have := HJ3.out
          omega
        · have hlt2I : decide ((j : Int) < 4096) = false := decide_eq_false (by omega)
          have HJ3 := Lib.hid hlt2
          have HE : Hid (fillW us j = padW us) := by
            show _ = _
            have := HJ2.out
            unfold padW
            rw [show min us.length 4096 = j by omega]
          rw [HE.out] at HR
          clear hlt2
          go_wp2
          go_ret
          exact ⟨_, _, _, _, rfl, HR.out, HB.out, by omega, by omega, by omega, by omega⟩
      · have hltI : decide ((j : Int) < (us.length : Int)) = false := decide_eq_false (by omega)
        have HE : Hid (fillW us j = padW us) := by
          show _ = _
          have := HJ2.out
          unfold padW
          rw [show min us.length 4096 = j by omega]
        rw [HE.out] at HR
        go_wp2
        go_ret
        exact ⟨_, _, _, _, rfl, HR.out, HB.out, by omega, by omega, by omega, by omega⟩
end Go.Proofs.YtadoaldnjnkhgaaGreatDoor
namespace Go.Proofs.YtadoaldnjnkhgaaGreatDoor
open Go.RowKit
set_option maxHeartbeats 4000000 in
set_option maxRecDepth 100000 in
theorem newRam_nil (w : World) :
    Calls Tryz.prog 31 #[.slice none 0 0] w fun e w' => MadeR w (padW []) (fun _ => false) (fun _ => false) e w' := by
  obtain ⟨mc, hmc, hmc1, hmc2⟩ := made_row (.int .u32 0) 4096
  obtain ⟨mb, hmb, hmb1, hmb2⟩ := made_row (.bool false) 64
  have hmk : ∀ W : World, (Instr.makeSlice 27 (.int .i64 4096) (.int .i64 4096)).run Tryz.prog W = .ok (.slice (some ⟨W.heap.size, 0, none⟩) 4096 4096) (W.alloc (.cells mc 22)) := by
    intro W
    rw [← hmc]
    exact run_make_row' 27 22 (.int .u32 0) 4 Tryz.underlying27 Tryz.infoU rfl .i64 .i64 4096 (by decide) (by decide) W
  have hmk2 : ∀ W : World, (Instr.makeSlice 56 (.int .i64 64) (.int .i64 64)).run Tryz.prog W = .ok (.slice (some ⟨W.heap.size, 0, none⟩) 64 64) (W.alloc (.cells mb 4)) := by
    intro W
    rw [← hmb]
    exact run_make_row' 56 4 (.bool false) 1 Tryz.underlying56 Tryz.infoBo rfl .i64 .i64 64 (by decide) (by decide) W
  clear hmc hmb
  go_enter Tryz.func31, Tryz.ntmps31
  go_wp2_with fail
  go_region_with fail
  · have HR0 := Lib.hid ((ram_made w hmc1 hmc2 hmb1 hmb2 [] (w.heap.size) (w.heap.size + 1) (by omega)).drew)
    have HB0 := Lib.hid ((below4 w (.cells mb 4) (.cells mb 4) (.cells #[.slice (some ⟨w.heap.size + 1 + 1 + 1, 0, none⟩) 4096 4096, .slice (some ⟨w.heap.size, 0, none⟩) 64 64, .slice (some ⟨w.heap.size + 1, 0, none⟩) 64 64] 58) (.cells mc 22)).drew)
    go_wp2_with fail
    generalize ((((w.alloc (.cells mb 4)).alloc (.cells mb 4)).alloc (.cells #[.slice (some ⟨w.heap.size + 1 + 1 + 1, 0, none⟩) 4096 4096, .slice (some ⟨w.heap.size, 0, none⟩) 64 64, .slice (some ⟨w.heap.size + 1, 0, none⟩) 64 64] 58)).alloc (.cells mc 22)).drew = W0 at *
    go_loopw [4] (fun i wr => i = .int .i64 0 ∧ Hid (RamM wr (w.heap.size + 1 + 1) (w.heap.size + 1 + 1 + 1) (w.heap.size) (w.heap.size + 1) (fillW [] 0) (fun _ => false) (fun _ => false)) ∧ Hid (Below w.heap.size w wr)) (fun i _ => 0)
    case atStart => exact ⟨rfl, HR0, HB0⟩
    case round =>
      obtain ⟨rfl, HR, HB⟩ := hrel
      obtain ⟨c0, c1, c2⟩ := HR.out.cells
      have HE : Hid (fillW [] 0 = padW []) := rfl
      rw [HE.out] at HR
      go_wp2
      go_ret
      exact ⟨_, _, _, _, rfl, HR.out, HB.out, by omega, by omega, by omega, by omega⟩
  · have HR0 := Lib.hid ((ram_made w hmc1 hmc2 hmb1 hmb2 [] (w.heap.size + 1) (w.heap.size) (by omega)).drew)
    have HB0 := Lib.hid ((below4 w (.cells mb 4) (.cells mb 4) (.cells #[.slice (some ⟨w.heap.size + 1 + 1 + 1, 0, none⟩) 4096 4096, .slice (some ⟨w.heap.size + 1, 0, none⟩) 64 64, .slice (some ⟨w.heap.size, 0, none⟩) 64 64] 58) (.cells mc 22)).drew)
    go_wp2_with fail
    generalize ((((w.alloc (.cells mb 4)).alloc (.cells mb 4)).alloc (.cells #[.slice (some ⟨w.heap.size + 1 + 1 + 1, 0, none⟩) 4096 4096, .slice (some ⟨w.heap.size + 1, 0, none⟩) 64 64, .slice (some ⟨w.heap.size, 0, none⟩) 64 64] 58)).alloc (.cells mc 22)).drew = W0 at *
    go_loopw [4] (fun i wr => i = .int .i64 0 ∧ Hid (RamM wr (w.heap.size + 1 + 1) (w.heap.size + 1 + 1 + 1) (w.heap.size + 1) (w.heap.size) (fillW [] 0) (fun _ => false) (fun _ => false)) ∧ Hid (Below w.heap.size w wr)) (fun i _ => 0)
    case atStart => exact ⟨rfl, HR0, HB0⟩
    case round =>
      obtain ⟨rfl, HR, HB⟩ := hrel
      obtain ⟨c0, c1, c2⟩ := HR.out.cells
      have HE : Hid (fillW [] 0 = padW []) := rfl
      rw [HE.out] at HR
      go_wp2
      go_ret
      exact ⟨_, _, _, _, rfl, HR.out, HB.out, by omega, by omega, by omega, by omega⟩
section
variable {w : World} {r bw ba bh : Nat} {ws : List Int} {wt ht : Nat → Bool}
theorem RamM.setWatch (h : RamM w r bw ba bh ws wt ht) (k : Nat) (v : Bool) : RamM (w.setCell ⟨ba, k, none⟩ (.bool v)) r bw ba bh ws (fun j => if j = k then v else wt j) ht := by
  obtain ⟨n1, n2, n3, n4, n5⟩ := h.apart
  have hK := Kept.set w ba k (.bool v)
  refine ⟨(hK.same r h.lt n2).trans h.blk, h.words.kept hK n4, (h.watch.set k (.bool v)).eqv (fun j hj => ?_), h.hit.kept hK (fun e => h.ne e.symm), h.ne, h.len, h.ok⟩
  show (if j = k then Value.bool v else Value.bool (wt j)) = Value.bool (if j = k then v else wt j)
  by_cases e : j = k
  · rw [if_pos e, if_pos e]
  · rw [if_neg e, if_neg e]
theorem RamM.eqWatch {f g : Nat → Bool} (h : RamM w r bw ba bh ws f ht) (e : ∀ j, j < 64 → f j = g j) : RamM w r bw ba bh ws g ht :=
  ⟨h.blk, h.words, h.watch.eqv (fun j hj => by unfold boolsG; rw [e j hj]), h.hit, h.ne, h.len, h.ok⟩
def upto (p : Nat) (f : Nat → Bool) : Nat → Bool := fun j => decide (j < p) && f j
theorem upto_step (p : Nat) (f : Nat → Bool) (j : Nat) : (if j = p then f p else upto p f j) = upto (p + 1) f j := by
  unfold upto
  by_cases e : j = p
  · subst e
    rw [if_pos rfl, decide_eq_true (by omega), Bool.true_and]
  · rw [if_neg e]
    by_cases h : j < p
    · rw [decide_eq_true h, decide_eq_true (by omega)]
    · rw [decide_eq_false h, decide_eq_false (by omega)]
set_option maxHeartbeats 4000000 in
set_option maxRecDepth 100000 in
theorem ramCopy_any (h : RamM w r bw ba bh ws wt ht) :
    Calls Tryz.prog 91 #[.pointer (some ⟨r, 0, none⟩)] w fun e w' => MadeR w ws wt ht e w' := by
  have HN : Hid (Calls Tryz.prog 31 #[.slice (some ⟨bw, 0, none⟩) 4096 4096] w fun e w' => MadeR w ws (fun _ => false) (fun _ => false) e w') := by
    refine Lib.hid ?_
    have := newRam_some bw 0 4096 ws (by rw [h.len]; decide) h.ok w (fun k hk => by
      rw [Nat.zero_add, h.word (by rw [h.len] at hk; exact hk), List.getD_eq_getElem?_getD, List.getElem?_eq_getElem hk]
      rfl)
    rw [h.len, padW_id h.len] at this
    exact this
  obtain ⟨c0, c1, c2⟩ := h.cells
  have HR := Lib.hid h
  clear h
  go_enter Tryz.func91, Tryz.ntmps91
  go_wp2_with fail
  refine HN.out.mono ?_
  rintro e w1 ⟨x, xw, xa, xh, rfl, hx, hb, x0, xw0, xa0, xh0⟩
  have HX := Lib.hid hx
  have HB := Lib.hid hb
  have HR1 := Lib.hid (HR.out.below hb)
  have HLT : Hid (r < w.heap.size ∧ bw < w.heap.size ∧ ba < w.heap.size ∧ bh < w.heap.size) := Lib.hid ⟨HR.out.lt, HR.out.words.lt, HR.out.watch.lt, HR.out.hit.lt⟩
  clear hx hb c0 c1 c2
  go_wp2_with fail
  go_loopw [4] (fun i wr => ∃ p : Nat, p ≤ 64 ∧ i = .int .i64 (p : Int) ∧ Hid (RamM wr x xw xa xh ws (upto p wt) (upto p ht)) ∧ Hid (RamM wr r bw ba bh ws wt ht) ∧ Hid (Below w.heap.size w wr)) (fun i _ => 64 - (intOf i).toNat)
  case atStart => exact ⟨0, Nat.zero_le _, rfl, Lib.hid ((HX.out.eqWatch (fun j _ => rfl)).eqHit (fun j _ => rfl)), HR1, HB⟩
  case round =>
    obtain ⟨p, hp, rfl, HXp, HRp, HBp⟩ := hrel
    by_cases hlt : p < 64
    · have hpI : (p : Int) < 64 := by omega
      obtain ⟨c0, c1, c2⟩ := HRp.out.cells
      obtain ⟨d0, d1, d2⟩ := HXp.out.cells
      have hw := HRp.out.watch.cell hlt
      have hxw := HXp.out.watch.cell hlt
      have hxf := HXp.out.watch.free p
      unfold boolsG at hw hxw
      have HX5 := Lib.hid ((HXp.out.drew.setWatch p (wt p)).eqWatch (fun j _ => upto_step p wt j))
      have HK5 := Kept.set wr.drew xa p (.bool (wt p))
      have HR5 := Lib.hid (HRp.out.drew.kept HK5 (by have := HLT.out; omega) (by have := HLT.out; omega) (by have := HLT.out; omega) (by have := HLT.out; omega))
      have HB5 := Lib.hid (HBp.out.drew.setCell (p := ⟨xa, p, none⟩) xa0 (.bool (wt p)))
      have HP := Lib.hid hlt
      generalize wt p = wp at *
      go_wp2_with fail
      go_still_tail 13, (by kernel_rfl)
      change wpList _ _ _ _ _ wr.drew
      have hxwd : wr.drew.cell? ⟨xa, p, none⟩ = some _ := hxw
      have hxfd : wr.drew.frozen? ⟨xa, p, none⟩ = false := hxf
      generalize wr.drew = wd at *
      clear hw hxw hxf c0 c1 c2 d0 d1 d2 HK5
      go_wp2_with fail
      clear hxwd hxfd
      generalize wd.setCell ⟨xa, p, none⟩ (.bool wp) = W5 at *
      obtain ⟨c0, c1, c2⟩ := HR5.out.cells
      obtain ⟨d0, d1, d2⟩ := HX5.out.cells
      have hw := HR5.out.hit.cell HP.out
      have hxw := HX5.out.hit.cell HP.out
      have hxf := HX5.out.hit.free p
      unfold boolsG at hw hxw
      have HX6 := Lib.hid ((HX5.out.drew.setHit p (ht p)).eqHit (fun j _ => upto_step p ht j))
      have HK6 := Kept.set W5.drew xh p (.bool (ht p))
      have HR6 := Lib.hid (HR5.out.drew.kept HK6 (by have := HLT.out; omega) (by have := HLT.out; omega) (by have := HLT.out; omega) (by have := HLT.out; omega))
      have HB6 := Lib.hid (HB5.out.drew.setCell (p := ⟨xh, p, none⟩) xh0 (.bool (ht p)))
      generalize ht p = hp6 at *
      go_still_tail 13, (by kernel_rfl)
      change wpList _ _ _ _ _ W5.drew
      have hxwd : W5.drew.cell? ⟨xh, p, none⟩ = some _ := hxw
      have hxfd : W5.drew.frozen? ⟨xh, p, none⟩ = false := hxf
      generalize W5.drew = wd6 at *
      clear hw hxw hxf c0 c1 c2 d0 d1 d2 HK6
      go_wp2
      refine ⟨⟨p + 1, by have := HP.out; omega, by go_num, HX6, HR6, HB6⟩, ?_⟩
      simp [intOf]
      have := HP.out
      omega
    · obtain rfl : p = 64 := by omega
      go_wp2
      go_ret
      exact ⟨x, xw, xa, xh, rfl, (HXp.out.eqWatch (fun j hj => by unfold upto; rw [decide_eq_true hj, Bool.true_and])).eqHit (fun j hj => by unfold upto; rw [decide_eq_true hj, Bool.true_and]), HBp.out, x0, xw0, xa0, xh0⟩
end
end Go.Proofs.YtadoaldnjnkhgaaGreatDoor
