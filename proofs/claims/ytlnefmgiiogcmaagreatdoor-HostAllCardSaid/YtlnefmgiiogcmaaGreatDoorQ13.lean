/- The walks of ir's lower: sum, set, copy, kinds, load; cpu.Size, word.Wide. The walks of ir's lower: load, long, branch, leave. The document's memory, third part: the walks of NewRam and Copy. The document's machine of a code: its state, the walk of NewMachine. The walk of the document's sum of an instruction, what they share. Conditions: as each theorem states. -/
import Derived.Test.YtlnefmgiiogcmaaGreatDoorQ04
import Derived.Test.YtlnefmgiiogcmaaGreatDoorQ01
import Derived.Test.YtlnefmgiiogcmaaGreatDoorQ08
import Derived.Deep.OwnRows
import Derived.WalkSmall
import Derived.StillTailTactics
import Derived.ProofKit
import Derived.Deep.QuietTactic
set_option linter.unusedVariables false
set_option linter.unusedSimpArgs false
namespace Go.Proofs.YtlnefmgiiogcmaaGreatDoor
open Go.RowKit
def Adds (w0 w : World) (lb : Nat) (pc : Int) (n : Nat) (ops : List OpN) (e : Ending) (w' : World) : Prop := e = .returned (.tuple #[]) ∧ KeptT w w' ∧ ∃ ov', LwW w0 w' lb pc n ov' ops
section
variable {w0 w : World} {lb : Nat} {pc : Int} {n : Nat} {ov : Value} {ops : List OpN}
theorem sum_any (h : LwW w0 w lb pc n ov ops) (hl : ops.length < 1000) (k : OpK) (d a b : Nat) :
    Calls Tryz.prog 70 #[.pointer (some ⟨lb, 0, none⟩), .string (bsl k.text), .int .i64 (d : Int), .int .i64 (a : Int), .int .i64 (b : Int)] w fun e w' => Adds w0 w lb pc n (ops ++ sumOp k d a b n) e w' := by
  have HD := Lib.hid (do_any h hl k d a (b : Int) 0)
  have HL := Lib.hid h
  clear h hl
  obtain ⟨kt, hkt⟩ : ∃ kt, bsl k.text = kt := ⟨_, rfl⟩
  rw [hkt] at HD ⊢
  clear hkt
  by_cases h0 : d = 0
  · subst h0
    have HS : Hid (sumOp k 0 a b n = []) := rfl
    go_enter Tryz.func70, Tryz.ntmps70
    go_wp2
    go_end0
    exact ⟨rfl, KeptT.refl _, ov, by rw [HS.out, List.append_nil]; exact HL.out⟩
  · have h0' : ((d : Int) != 0) = true := bne_iff_ne.2 (by omega)
    have HS : Hid (sumOp k d a b n = [⟨k, d, a, (b : Int), 0, n⟩]) := if_neg h0
    clear h0
    go_enter Tryz.func70, Tryz.ntmps70
    go_wp2_with fail
    refine HD.out.mono ?_
    rintro e w1 ⟨rfl, hK, ov', hL⟩
    have HL2 := Lib.hid hL
    have HK2 := Lib.hid hK
    clear hL hK
    go_wp2
    go_end0
    exact ⟨rfl, HK2.out, ov', by rw [HS.out]; exact HL2.out⟩
theorem set_any (h : LwW w0 w lb pc n ov ops) (hl : ops.length < 1000) (d : Nat) (v : Int) :
    Calls Tryz.prog 38 #[.pointer (some ⟨lb, 0, none⟩), .int .i64 (d : Int), .int .u32 v] w fun e w' => Adds w0 w lb pc n (ops ++ setOp d v n) e w' := by
  have HD := Lib.hid (do_any h hl .set d 0 0 v)
  have HL := Lib.hid h
  clear h hl
  by_cases h0 : d = 0
  · subst h0
    have HS : Hid (setOp 0 v n = []) := rfl
    go_enter Tryz.func38, Tryz.ntmps38
    go_wp2
    go_end0
    exact ⟨rfl, KeptT.refl _, ov, by rw [HS.out, List.append_nil]; exact HL.out⟩
  · have h0' : ((d : Int) != 0) = true := bne_iff_ne.2 (by omega)
    have HS : Hid (setOp d v n = [⟨.set, d, 0, 0, v, n⟩]) := if_neg h0
    clear h0
    go_enter Tryz.func38, Tryz.ntmps38
    go_wp2_with fail
    refine HD.out.mono ?_
    rintro e w1 ⟨rfl, hK, ov', hL⟩
    have HL2 := Lib.hid hL
    have HK2 := Lib.hid hK
    clear hL hK
    go_wp2
    go_end0
    exact ⟨rfl, HK2.out, ov', by rw [HS.out]; exact HL2.out⟩
theorem copy_any (h : LwW w0 w lb pc n ov ops) (hl : ops.length < 1000) (d a : Nat) :
    Calls Tryz.prog 99 #[.pointer (some ⟨lb, 0, none⟩), .int .i64 (d : Int), .int .i64 (a : Int)] w fun e w' => Adds w0 w lb pc n (ops ++ copyOp d a n) e w' := by
  have HD := Lib.hid (do_any h hl .copy d a 0 0)
  have HL := Lib.hid h
  clear h hl
  by_cases h0 : d = 0
  · subst h0
    have HS : Hid (copyOp 0 a n = []) := rfl
    go_enter Tryz.func99, Tryz.ntmps99
    go_wp2
    go_end0
    exact ⟨rfl, KeptT.refl _, ov, by rw [HS.out, List.append_nil]; exact HL.out⟩
  · have h0' : ((d : Int) != 0) = true := bne_iff_ne.2 (by omega)
    have HS : Hid (copyOp d a n = [⟨.copy, d, a, 0, 0, n⟩]) := if_neg h0
    clear h0
    go_enter Tryz.func99, Tryz.ntmps99
    go_wp2_with fail
    refine HD.out.mono ?_
    rintro e w1 ⟨rfl, hK, ov', hL⟩
    have HL2 := Lib.hid hL
    have HK2 := Lib.hid hK
    clear hL hK
    go_wp2
    go_end0
    exact ⟨rfl, HK2.out, ov', by rw [HS.out]; exact HL2.out⟩
end
theorem wide16_any (v : Int) (h0 : 0 ≤ v) (h1 : v < 4294967296) (w : World) :
    Calls Tryz.prog 39 #[.int .u32 v, .int .i64 16, .bool true] w fun e w' => e = .returned (.int .u32 (wideS v)) ∧ w = w' := by
  go_enter Tryz.func39, Tryz.ntmps39
  go_wp2
  go_ret
  refine ⟨congrArg (fun z => Ending.returned (.int .u32 z)) ?_, rfl⟩
  unfold wrap32 wideS
  split <;> omega
def sizeT (op : Nat) : Nat × Bool := match op with
  | 46 => (1, true) | 47 => (2, true) | 49 => (1, false) | 51 => (1, false) | 50 => (2, false) | 52 => (2, false) | _ => (4, false)
theorem size_any (op : Nat) (h : op ∈ [46, 47, 48, 49, 50, 51, 52, 53]) (w : World) :
    Calls Tryz.prog 41 #[.int .i64 (op : Int)] w fun e w' => e = .returned (.tuple #[.int .i64 ((sizeT op).1 : Int), .bool (sizeT op).2]) ∧ w = w' := by
  simp only [List.mem_cons, List.not_mem_nil, or_false] at h
  rcases h with rfl | rfl | rfl | rfl | rfl | rfl | rfl | rfl
  all_goals
    go_enter Tryz.func41, Tryz.ntmps41
    go_wp2
    go_ret2
    exact ⟨rfl, rfl⟩
set_option maxHeartbeats 2000000 in
theorem kinds_any (op : Nat) (h : op ∈ [1, 2, 3, 4, 5, 6, 20, 22, 23, 24, 25, 26, 27, 28, 35, 36, 37, 38, 39, 40, 41]) (w : World) :
    Calls Tryz.prog 71 #[.int .i64 (op : Int)] w fun e w' => e = .returned (.string (bsl (sumK op).text)) ∧ w = w' := by
  simp only [List.mem_cons, List.not_mem_nil, or_false] at h
  rcases h with rfl | rfl | rfl | rfl | rfl | rfl | rfl | rfl | rfl | rfl | rfl | rfl | rfl | rfl | rfl | rfl | rfl | rfl | rfl | rfl | rfl
  all_goals
    go_enter Tryz.func71, Tryz.ntmps71
    go_wp2
    go_ret
    exact ⟨rfl, rfl⟩
end Go.Proofs.YtlnefmgiiogcmaaGreatDoor
namespace Go.Proofs.YtlnefmgiiogcmaaGreatDoor
open Go.RowKit
set_option maxHeartbeats 4000000
abbrev insA (op s t d : Nat) (m : Int) : Value := .agg #[.int .i64 (op : Int), .int .i64 (s : Int), .int .i64 (t : Int), .int .i64 (d : Int), .int .u32 m]
abbrev InsB (w : World) (b op s t d : Nat) (m : Int) : Prop := Five w b 69 (.int .i64 (op : Int)) (.int .i64 (s : Int)) (.int .i64 (t : Int)) (.int .i64 (d : Int)) (.int .u32 m)
theorem InsB.kept {w w' : World} {b op s t d : Nat} {m : Int} (h : InsB w b op s t d m) (hk : KeptT w w') : InsB w' b op s t d m := hk b _ _ _ h (by decide) (by decide)
abbrev boxW (w : World) (op s t d : Nat) (m : Int) : World := w.alloc (.cells #[.int .i64 (op : Int), .int .i64 (s : Int), .int .i64 (t : Int), .int .i64 (d : Int), .int .u32 m] 69)
theorem boxW.kept {w w' : World} {op s t d : Nat} {m : Int} (h : KeptT (boxW w op s t d m) w') : KeptT w w' := (KeptT.of_below ((Below.refl w.heap.size w).alloc (Nat.le_refl _) _)).trans h
theorem LwW.box {w0 w : World} {lb : Nat} {pc : Int} {n : Nat} {ov : Value} {ops : List OpN} (h : LwW w0 w lb pc n ov ops) (op s t d : Nat) (m : Int) : LwW w0 (boxW w op s t d m) lb pc n ov ops := h.trans ((Below.refl w.heap.size w).alloc (Nat.le_refl _) _)
section
variable {w0 w : World} {lb : Nat} {pc : Int} {n : Nat} {ov : Value} {ops : List OpN}
theorem long15 (h : LwW w0 w lb pc n ov ops) (hl : ops.length < 900) (s t d : Nat) (m : Int) :
    Calls Tryz.prog 72 #[.pointer (some ⟨lb, 0, none⟩), insA 15 s t d m] w fun e w' => Adds w0 w lb pc n (ops ++ lowIns 15 s t d m n) e w' := by
  have HD := Lib.hid (do_any (h.box 15 s t d m) (by omega) .mulh 32 s (t : Int) 0)
  have HF : InsB (boxW w 15 s t d m) w.heap.size 15 s t d m := Five.new w _ _ _ _ _ _
  have HLN := Lib.hid hl
  clear h hl
  go_enter Tryz.func72, Tryz.ntmps72
  go_wp2_with fail
  refine HD.out.mono ?_
  rintro e w1 ⟨rfl, hK, ov1, hL⟩
  have HF1 := HF.kept hK
  obtain ⟨c0, c1, c2, c3, c4⟩ := Five.cells HF1
  have HD2 := Lib.hid (do_any hL (by rw [List.length_append]; have := HLN.out; simp; omega) .mul 33 s (t : Int) 0)
  have HK := Lib.hid hK
  clear hL hK HF1
  go_wp2_with fail
  refine HD2.out.mono ?_
  rintro e w2 ⟨rfl, hK, ov2, hL⟩
  have HL2 := Lib.hid hL
  have HK2 := Lib.hid hK
  clear hL hK
  go_wp2
  go_end0
  exact ⟨rfl, boxW.kept (HK.out.trans HK2.out), ov2, by have := HL2.out; rw [List.append_assoc] at this; exact this⟩
theorem long16 (h : LwW w0 w lb pc n ov ops) (hl : ops.length < 900) (s t d : Nat) (m : Int) :
    Calls Tryz.prog 72 #[.pointer (some ⟨lb, 0, none⟩), insA 16 s t d m] w fun e w' => Adds w0 w lb pc n (ops ++ lowIns 16 s t d m n) e w' := by
  have HD := Lib.hid (do_any (h.box 16 s t d m) (by omega) .mulhu 32 s (t : Int) 0)
  have HF : InsB (boxW w 16 s t d m) w.heap.size 16 s t d m := Five.new w _ _ _ _ _ _
  have HLN := Lib.hid hl
  clear h hl
  go_enter Tryz.func72, Tryz.ntmps72
  go_wp2_with fail
  refine HD.out.mono ?_
  rintro e w1 ⟨rfl, hK, ov1, hL⟩
  have HF1 := HF.kept hK
  obtain ⟨c0, c1, c2, c3, c4⟩ := Five.cells HF1
  have HD2 := Lib.hid (do_any hL (by rw [List.length_append]; have := HLN.out; simp; omega) .mul 33 s (t : Int) 0)
  have HK := Lib.hid hK
  clear hL hK HF1
  go_wp2_with fail
  refine HD2.out.mono ?_
  rintro e w2 ⟨rfl, hK, ov2, hL⟩
  have HL2 := Lib.hid hL
  have HK2 := Lib.hid hK
  clear hL hK
  go_wp2
  go_end0
  exact ⟨rfl, boxW.kept (HK.out.trans HK2.out), ov2, by have := HL2.out; rw [List.append_assoc] at this; exact this⟩
theorem long17 (h : LwW w0 w lb pc n ov ops) (hl : ops.length < 900) (s t d : Nat) (m : Int) :
    Calls Tryz.prog 72 #[.pointer (some ⟨lb, 0, none⟩), insA 17 s t d m] w fun e w' => Adds w0 w lb pc n (ops ++ lowIns 17 s t d m n) e w' := by
  have HD := Lib.hid (do_any (h.box 17 s t d m) (by omega) .quo 33 s (t : Int) 0)
  have HF : InsB (boxW w 17 s t d m) w.heap.size 17 s t d m := Five.new w _ _ _ _ _ _
  have HLN := Lib.hid hl
  clear h hl
  go_enter Tryz.func72, Tryz.ntmps72
  go_wp2_with fail
  refine HD.out.mono ?_
  rintro e w1 ⟨rfl, hK, ov1, hL⟩
  have HF1 := HF.kept hK
  obtain ⟨c0, c1, c2, c3, c4⟩ := Five.cells HF1
  have HD2 := Lib.hid (do_any hL (by rw [List.length_append]; have := HLN.out; simp; omega) .rem 32 s (t : Int) 0)
  have HK := Lib.hid hK
  clear hL hK HF1
  go_wp2_with fail
  refine HD2.out.mono ?_
  rintro e w2 ⟨rfl, hK, ov2, hL⟩
  have HL2 := Lib.hid hL
  have HK2 := Lib.hid hK
  clear hL hK
  go_wp2
  go_end0
  exact ⟨rfl, boxW.kept (HK.out.trans HK2.out), ov2, by have := HL2.out; rw [List.append_assoc] at this; exact this⟩
theorem long18 (h : LwW w0 w lb pc n ov ops) (hl : ops.length < 900) (s t d : Nat) (m : Int) :
    Calls Tryz.prog 72 #[.pointer (some ⟨lb, 0, none⟩), insA 18 s t d m] w fun e w' => Adds w0 w lb pc n (ops ++ lowIns 18 s t d m n) e w' := by
  have HD := Lib.hid (do_any (h.box 18 s t d m) (by omega) .quou 33 s (t : Int) 0)
  have HF : InsB (boxW w 18 s t d m) w.heap.size 18 s t d m := Five.new w _ _ _ _ _ _
  have HLN := Lib.hid hl
  clear h hl
  go_enter Tryz.func72, Tryz.ntmps72
  go_wp2_with fail
  refine HD.out.mono ?_
  rintro e w1 ⟨rfl, hK, ov1, hL⟩
  have HF1 := HF.kept hK
  obtain ⟨c0, c1, c2, c3, c4⟩ := Five.cells HF1
  have HD2 := Lib.hid (do_any hL (by rw [List.length_append]; have := HLN.out; simp; omega) .remu 32 s (t : Int) 0)
  have HK := Lib.hid hK
  clear hL hK HF1
  go_wp2_with fail
  refine HD2.out.mono ?_
  rintro e w2 ⟨rfl, hK, ov2, hL⟩
  have HL2 := Lib.hid hL
  have HK2 := Lib.hid hK
  clear hL hK
  go_wp2
  go_end0
  exact ⟨rfl, boxW.kept (HK.out.trans HK2.out), ov2, by have := HL2.out; rw [List.append_assoc] at this; exact this⟩
theorem long11 (h : LwW w0 w lb pc n ov ops) (hl : ops.length < 900) (s t d : Nat) (m : Int) :
    Calls Tryz.prog 72 #[.pointer (some ⟨lb, 0, none⟩), insA 11 s t d m] w fun e w' => Adds w0 w lb pc n (ops ++ lowIns 11 s t d m n) e w' := by
  have HD := Lib.hid (copy_any (h.box 11 s t d m) (by omega) d 32)
  have HLN := Lib.hid hl
  clear h hl
  go_enter Tryz.func72, Tryz.ntmps72
  go_wp2_with fail
  refine HD.out.mono ?_
  rintro e w1 ⟨rfl, hK, ov1, hL⟩
  have HL2 := Lib.hid hL
  have HK2 := Lib.hid hK
  clear hL hK
  go_wp2
  go_end0
  exact ⟨rfl, boxW.kept HK2.out, ov1, HL2.out⟩
theorem long13 (h : LwW w0 w lb pc n ov ops) (hl : ops.length < 900) (s t d : Nat) (m : Int) :
    Calls Tryz.prog 72 #[.pointer (some ⟨lb, 0, none⟩), insA 13 s t d m] w fun e w' => Adds w0 w lb pc n (ops ++ lowIns 13 s t d m n) e w' := by
  have HD := Lib.hid (copy_any (h.box 13 s t d m) (by omega) d 33)
  have HLN := Lib.hid hl
  clear h hl
  go_enter Tryz.func72, Tryz.ntmps72
  go_wp2_with fail
  refine HD.out.mono ?_
  rintro e w1 ⟨rfl, hK, ov1, hL⟩
  have HL2 := Lib.hid hL
  have HK2 := Lib.hid hK
  clear hL hK
  go_wp2
  go_end0
  exact ⟨rfl, boxW.kept HK2.out, ov1, HL2.out⟩
theorem long12 (h : LwW w0 w lb pc n ov ops) (hl : ops.length < 900) (s t d : Nat) (m : Int) :
    Calls Tryz.prog 72 #[.pointer (some ⟨lb, 0, none⟩), insA 12 s t d m] w fun e w' => Adds w0 w lb pc n (ops ++ lowIns 12 s t d m n) e w' := by
  have HD := Lib.hid (copy_any (h.box 12 s t d m) (by omega) 32 s)
  have HLN := Lib.hid hl
  clear h hl
  go_enter Tryz.func72, Tryz.ntmps72
  go_wp2_with fail
  refine HD.out.mono ?_
  rintro e w1 ⟨rfl, hK, ov1, hL⟩
  have HL2 := Lib.hid hL
  have HK2 := Lib.hid hK
  clear hL hK
  go_wp2
  go_end0
  exact ⟨rfl, boxW.kept HK2.out, ov1, HL2.out⟩
theorem long14 (h : LwW w0 w lb pc n ov ops) (hl : ops.length < 900) (s t d : Nat) (m : Int) :
    Calls Tryz.prog 72 #[.pointer (some ⟨lb, 0, none⟩), insA 14 s t d m] w fun e w' => Adds w0 w lb pc n (ops ++ lowIns 14 s t d m n) e w' := by
  have HD := Lib.hid (copy_any (h.box 14 s t d m) (by omega) 33 s)
  have HLN := Lib.hid hl
  clear h hl
  go_enter Tryz.func72, Tryz.ntmps72
  go_wp2_with fail
  refine HD.out.mono ?_
  rintro e w1 ⟨rfl, hK, ov1, hL⟩
  have HL2 := Lib.hid hL
  have HK2 := Lib.hid hK
  clear hL hK
  go_wp2
  go_end0
  exact ⟨rfl, boxW.kept HK2.out, ov1, HL2.out⟩
end
end Go.Proofs.YtlnefmgiiogcmaaGreatDoor
namespace Go.Proofs.YtlnefmgiiogcmaaGreatDoor
open Go.RowKit
theorem Tryz.infoU : (Tryz.prog.info? 22).map (fun i => (i.zero, i.size, i.bytes)) = some (some (.int .u32 0), 1, 4) := by kernel_rfl
theorem made_row (z : Value) (n : Nat) : ∃ mc : Array Value, (madeCells #[z] n = mc) ∧ mc.size = n ∧ ∀ i, i < n → mc[i]? = some z := by
  refine ⟨_, rfl, by simp [size_madeCells], fun i hi => ?_⟩
  simp [madeCells, hi, Nat.mod_one]
def fillW (us : List Int) (i : Nat) : List Int := us.take i ++ List.replicate (4096 - i) 0
theorem fillW_len (us : List Int) {i : Nat} (h : i ≤ us.length) (h2 : i ≤ 4096) : (fillW us i).length = 4096 := by
  unfold fillW
  rw [List.length_append, List.length_take, List.length_replicate]
  omega
theorem fillW_set (us : List Int) {i : Nat} (h : i < us.length) (h2 : i < 4096) : (fillW us i).set i us[i] = fillW us (i + 1) := by
  unfold fillW
  have e : 4096 - i = (4096 - (i + 1)) + 1 := by omega
  rw [e, List.replicate_succ, List.take_add_one, List.getElem?_eq_getElem h]
  have hl : (us.take i).length = i := by rw [List.length_take]; omega
  rw [List.set_append_right _ _ (by omega), hl, Nat.sub_self, List.set_cons_zero, List.append_assoc]
  rfl
theorem fillW_ok {us : List Int} (h : WsOK us) (i : Nat) : WsOK (fillW us i) := by
  intro z hz
  unfold fillW at hz
  rcases List.mem_append.1 hz with hz | hz
  · exact h z (List.mem_of_mem_take hz)
  · rw [List.eq_of_mem_replicate hz]
    exact r32_0
def padW (us : List Int) : List Int := fillW us (min us.length 4096)
theorem padW_len (us : List Int) : (padW us).length = 4096 := fillW_len us (Nat.min_le_left _ _) (Nat.min_le_right _ _)
end Go.Proofs.YtlnefmgiiogcmaaGreatDoor
namespace Go.Proofs.YtlnefmgiiogcmaaGreatDoor
open Go.RowKit
structure StF where
  r : Regs
  hi : Int
  lo : Int
  pc : Int
  next : Int
  slot : Bool
  status : Int
  cause : Int
  epc : Int
  bad : Int
  compare : Int
  count : Int
def stG (s : StF) : Nat → Value := fun k => if k < 32 then .int .u32 (s.r k) else match k with
  | 32 => .int .u32 s.hi | 33 => .int .u32 s.lo | 34 => .int .u32 s.pc | 35 => .int .u32 s.next | 36 => .bool s.slot
  | 37 => .int .u32 s.status | 38 => .int .u32 s.cause | 39 => .int .u32 s.epc | 40 => .int .u32 s.bad | 41 => .int .u32 s.compare | _ => .int .i64 s.count
abbrev StB (w : World) (b : Nat) (s : StF) : Prop := Row w b 26 43 (stG s)
theorem StB.reg {w : World} {b : Nat} {s : StF} (h : StB w b s) {k : Nat} (hk : k < 32) : w.cell? ⟨b, k, none⟩ = some (.int .u32 (s.r k)) := by
  have := h.cell (show k < 43 by omega)
  unfold stG at this
  rw [if_pos hk] at this
  exact this
end Go.Proofs.YtlnefmgiiogcmaaGreatDoor
namespace Go.Proofs.YtlnefmgiiogcmaaGreatDoor
open Go.RowKit
theorem StB.setHi {w : World} {sb : Nat} {s : StF} (h : StB w sb s) (v : Int) : StB (w.setCell ⟨sb, 32, none⟩ (.int .u32 v)) sb { s with hi := v } :=
  (Row.set h 32 (.int .u32 v)).eqv (fun j hj => by
    by_cases e : j = 32
    · subst e; rfl
    · rw [if_neg e]
      unfold stG
      split
      · rfl
      · split <;> first | rfl | exact absurd rfl e)
theorem StB.setLo {w : World} {sb : Nat} {s : StF} (h : StB w sb s) (v : Int) : StB (w.setCell ⟨sb, 33, none⟩ (.int .u32 v)) sb { s with lo := v } :=
  (Row.set h 33 (.int .u32 v)).eqv (fun j hj => by
    by_cases e : j = 33
    · subst e; rfl
    · rw [if_neg e]
      unfold stG
      split
      · rfl
      · split <;> first | rfl | exact absurd rfl e)
theorem StB.drew {w : World} {sb : Nat} {s : StF} (h : StB w sb s) : StB w.drew sb s := h.of_block rfl
theorem InsB.drew {w : World} {b op s t d : Nat} {m : Int} (h : InsB w b op s t d m) : InsB w.drew b op s t d m := h
end Go.Proofs.YtlnefmgiiogcmaaGreatDoor
