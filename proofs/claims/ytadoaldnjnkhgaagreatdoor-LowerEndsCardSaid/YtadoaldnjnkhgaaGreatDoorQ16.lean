/- The walks of the document's EncodeOf: the ways that it takes. Conditions: as each theorem states. -/
import Derived.Test.YtadoaldnjnkhgaaGreatDoorQ10
import Derived.Test.YtadoaldnjnkhgaaGreatDoorQ15
set_option linter.unusedVariables false
set_option linter.unusedSimpArgs false
namespace Go.Proofs.YtadoaldnjnkhgaaGreatDoor
open Go.RowKit
structure EofW (w wr : World) (b : Nat) (op s t d m ma mi : Int) (nm fs od kd : ByteArray) : Prop where
  ins : Five wr w.heap.size 61 (.int .i64 op) (.int .i64 s) (.int .i64 t) (.int .i64 d) (.int .u32 m)
  row : Six wr b 123 (.string nm) (.int .i64 ma) (.int .i64 mi) (.string fs) (.string od) (.string kd)
  below : Below w.heap.size w wr
theorem EofW.drewN {w wr : World} {b : Nat} {op s t d m ma mi : Int} {nm fs od kd : ByteArray} (h : EofW w wr b op s t d m ma mi nm fs od kd) (n : Nat) : EofW w (wr.drewN n) b op s t d m ma mi nm fs od kd :=
  have hb : Below wr.heap.size wr (wr.drewN n) := ⟨rfl, rfl, rfl, Nat.le_refl _, fun _ _ => rfl⟩
  ⟨h.ins.below hb h.ins.lt, h.row.below hb (Array.getElem?_eq_some_iff.1 h.row).1, h.below.trans (hb.mono h.below.size)⟩
theorem EofW.start {w w1 : World} {op s t d m ma mi : Int} {nm fs od kd : ByteArray}
    (hb : Below (w.alloc (.cells #[.int .i64 op, .int .i64 s, .int .i64 t, .int .i64 d, .int .u32 m] 61)).heap.size (w.alloc (.cells #[.int .i64 op, .int .i64 s, .int .i64 t, .int .i64 d, .int .u32 m] 61)) w1) :
    EofW w (w1.alloc (.cells #[.string nm, .int .i64 ma, .int .i64 mi, .string fs, .string od, .string kd] 123)) w1.heap.size op s t d m ma mi nm fs od kd := by
  have HF : Five w1 w.heap.size 61 (.int .i64 op) (.int .i64 s) (.int .i64 t) (.int .i64 d) (.int .u32 m) := (Five.new w _ _ _ _ _ _).below hb (by simp)
  have HB : Below w.heap.size w w1 := ((Below.refl _ _).alloc (Nat.le_refl _) _).trans (hb.mono (by simp))
  exact ⟨HF.below ((Below.refl w1.heap.size w1).alloc (Nat.le_refl _) _) HF.lt, Six.new w1 _ _ _ _ _ _ _, HB.alloc (by have := HF.lt; omega) _⟩
abbrev isOfIs (fs : ByteArray) (c : Int) (b : Bool) : Prop := Hid (∀ W, Calls Tryz.prog 52 #[.string fs, .int .u8 c] W fun e w' => e = .returned (.bool b) ∧ W = w')
abbrev wellIs (n : Int) (h b : Bool) : Prop := Hid (∀ W, Calls Tryz.prog 51 #[.int .i64 n, .bool h] W fun e w' => e = .returned (.bool b) ∧ W = w')
abbrev rowIs (op ma mi : Int) (nm od kd : ByteArray) (fs : ByteArray) : Prop := Hid (∀ W, Calls Tryz.prog 50 #[.int .i64 op] W fun e w' => e = .returned (.agg #[.string nm, .int .i64 ma, .int .i64 mi, .string fs, .string od, .string kd]) ∧ Below W.heap.size W w')
set_option maxHeartbeats 1000000 in
theorem encof_0 (mi : Int) (b0 : 0 ≤ mi) (b1 : mi < 64) (op s t d m : Int) (nm od kd : ByteArray) (fs : ByteArray) (bS bT bD : Bool) (o0 : 1 ≤ op) (o1 : op < 54) (s0 : 0 ≤ s) (s1 : s < 32) (t0 : 0 ≤ t) (t1 : t < 32) (d0 : 0 ≤ d) (d1 : d < 32) (m0 : 0 ≤ m) (m1 : m ≤ 0)
    (hR : rowIs op 0 mi nm od kd fs) (i83 : isOfIs fs 83 bS) (i84 : isOfIs fs 84 bT) (i68 : isOfIs fs 68 bD) (i97 : isOfIs fs 97 false) (i105 : isOfIs fs 105 false) (i106 : isOfIs fs 106 false) (f83 : wellIs s bS true) (f84 : wellIs t bT true) (f68 : wellIs d bD true) (w : World) :
    Calls Tryz.prog 23 #[.agg #[.int .i64 op, .int .i64 s, .int .i64 t, .int .i64 d, .int .u32 m]] w fun e w' => e = .returned (.tuple #[.int .u32 (0 * 67108864 + s * 2097152 + t * 65536 + d * 2048 + m + mi), .int .i64 0]) ∧ Below w.heap.size w w' := by
  go_enter Tryz.func23, Tryz.ntmps23
  go_wp2_with (first | (go_at_call 50; (with_reducible refine (hR.out _).mono ?_); rintro e w1 ⟨rfl, hb⟩) | (go_at_call 52; (with_reducible refine (i83.out _).mono ?_); rintro e w' ⟨rfl, rfl⟩) | (go_at_call 52; (with_reducible refine (i84.out _).mono ?_); rintro e w' ⟨rfl, rfl⟩) | (go_at_call 52; (with_reducible refine (i68.out _).mono ?_); rintro e w' ⟨rfl, rfl⟩) | (go_at_call 52; (with_reducible refine (i97.out _).mono ?_); rintro e w' ⟨rfl, rfl⟩) | (go_at_call 52; (with_reducible refine (i105.out _).mono ?_); rintro e w' ⟨rfl, rfl⟩) | (go_at_call 52; (with_reducible refine (i106.out _).mono ?_); rintro e w' ⟨rfl, rfl⟩) | (go_at_call 51; (with_reducible refine (f83.out _).mono ?_); rintro e w' ⟨rfl, rfl⟩) | (go_at_call 51; (with_reducible refine (f84.out _).mono ?_); rintro e w' ⟨rfl, rfl⟩) | (go_at_call 51; (with_reducible refine (f68.out _).mono ?_); rintro e w' ⟨rfl, rfl⟩))
  have H0 := Lib.hid (EofW.start (ma := 0) (mi := mi) (nm := nm) (fs := fs) (od := od) (kd := kd) hb)
  clear hb
  generalize w1.alloc (.cells #[.string nm, .int .i64 0, .int .i64 mi, .string fs, .string od, .string kd] 123) = w2 at *
  generalize w1.heap.size = b at *
  obtain ⟨c0, c1, c2, c3, c4⟩ := H0.out.ins.cells
  obtain ⟨r0, r1, r2, r3, r4, r5⟩ := H0.out.row.cells
  go_wp2_with fail
  go_quiet (first | (go_at_call 52; exact Calls.quiet_of_same ((i83.out _).mono fun _ _ h => ⟨h.1, h.2.symm⟩)) | (go_at_call 51; exact Calls.quiet_of_same ((f83.out _).mono fun _ _ h => ⟨h.1, h.2.symm⟩)))
  have H1 := Lib.hid (H0.out.drewN nq)
  clear c0 c1 c2 c3 c4 r0 r1 r2 r3 r4 r5 H0
  generalize w2.drewN nq = w3 at *
  clear nq
  obtain ⟨c0, c1, c2, c3, c4⟩ := H1.out.ins.cells
  obtain ⟨r0, r1, r2, r3, r4, r5⟩ := H1.out.row.cells
  go_wp2_with fail
  go_quiet (first | (go_at_call 52; exact Calls.quiet_of_same ((i84.out _).mono fun _ _ h => ⟨h.1, h.2.symm⟩)) | (go_at_call 51; exact Calls.quiet_of_same ((f84.out _).mono fun _ _ h => ⟨h.1, h.2.symm⟩)))
  have H2 := Lib.hid (H1.out.drewN nq)
  clear c0 c1 c2 c3 c4 r0 r1 r2 r3 r4 r5 H1
  generalize w3.drewN nq = w4 at *
  clear nq
  obtain ⟨c0, c1, c2, c3, c4⟩ := H2.out.ins.cells
  obtain ⟨r0, r1, r2, r3, r4, r5⟩ := H2.out.row.cells
  go_wp2_with fail
  go_quiet (first | (go_at_call 52; exact Calls.quiet_of_same ((i68.out _).mono fun _ _ h => ⟨h.1, h.2.symm⟩)) | (go_at_call 51; exact Calls.quiet_of_same ((f68.out _).mono fun _ _ h => ⟨h.1, h.2.symm⟩)))
  have H3 := Lib.hid (H2.out.drewN nq)
  clear c0 c1 c2 c3 c4 r0 r1 r2 r3 r4 r5 H2
  generalize w4.drewN nq = w5 at *
  clear nq
  obtain ⟨c0, c1, c2, c3, c4⟩ := H3.out.ins.cells
  obtain ⟨r0, r1, r2, r3, r4, r5⟩ := H3.out.row.cells
  go_wp2_with (first | (go_at_call 50; (with_reducible refine (hR.out _).mono ?_); rintro e w1 ⟨rfl, hb⟩) | (go_at_call 52; (with_reducible refine (i83.out _).mono ?_); rintro e w' ⟨rfl, rfl⟩) | (go_at_call 52; (with_reducible refine (i84.out _).mono ?_); rintro e w' ⟨rfl, rfl⟩) | (go_at_call 52; (with_reducible refine (i68.out _).mono ?_); rintro e w' ⟨rfl, rfl⟩) | (go_at_call 52; (with_reducible refine (i97.out _).mono ?_); rintro e w' ⟨rfl, rfl⟩) | (go_at_call 52; (with_reducible refine (i105.out _).mono ?_); rintro e w' ⟨rfl, rfl⟩) | (go_at_call 52; (with_reducible refine (i106.out _).mono ?_); rintro e w' ⟨rfl, rfl⟩) | (go_at_call 51; (with_reducible refine (f83.out _).mono ?_); rintro e w' ⟨rfl, rfl⟩) | (go_at_call 51; (with_reducible refine (f84.out _).mono ?_); rintro e w' ⟨rfl, rfl⟩) | (go_at_call 51; (with_reducible refine (f68.out _).mono ?_); rintro e w' ⟨rfl, rfl⟩))
  go_ret2
  exact ⟨congrArg (fun z => Ending.returned (.tuple #[.int .u32 z, .int .i64 0])) (by omega), H3.out.below⟩
set_option maxHeartbeats 1000000 in
theorem encof_0a (mi : Int) (b0 : 0 ≤ mi) (b1 : mi < 64) (op s t d m : Int) (nm od kd : ByteArray) (fs : ByteArray) (bS bT bD : Bool) (o0 : 1 ≤ op) (o1 : op < 54) (s0 : 0 ≤ s) (s1 : s < 32) (t0 : 0 ≤ t) (t1 : t < 32) (d0 : 0 ≤ d) (d1 : d < 32) (m0 : 0 ≤ m) (m1 : m ≤ 31)
    (hR : rowIs op 0 mi nm od kd fs) (i83 : isOfIs fs 83 bS) (i84 : isOfIs fs 84 bT) (i68 : isOfIs fs 68 bD) (i97 : isOfIs fs 97 true) (i105 : isOfIs fs 105 false) (i106 : isOfIs fs 106 false) (f83 : wellIs s bS true) (f84 : wellIs t bT true) (f68 : wellIs d bD true) (w : World) :
    Calls Tryz.prog 23 #[.agg #[.int .i64 op, .int .i64 s, .int .i64 t, .int .i64 d, .int .u32 m]] w fun e w' => e = .returned (.tuple #[.int .u32 (0 * 67108864 + s * 2097152 + t * 65536 + d * 2048 + m * 64 + mi), .int .i64 0]) ∧ Below w.heap.size w w' := by
  go_enter Tryz.func23, Tryz.ntmps23
  go_wp2_with (first | (go_at_call 50; (with_reducible refine (hR.out _).mono ?_); rintro e w1 ⟨rfl, hb⟩) | (go_at_call 52; (with_reducible refine (i83.out _).mono ?_); rintro e w' ⟨rfl, rfl⟩) | (go_at_call 52; (with_reducible refine (i84.out _).mono ?_); rintro e w' ⟨rfl, rfl⟩) | (go_at_call 52; (with_reducible refine (i68.out _).mono ?_); rintro e w' ⟨rfl, rfl⟩) | (go_at_call 52; (with_reducible refine (i97.out _).mono ?_); rintro e w' ⟨rfl, rfl⟩) | (go_at_call 52; (with_reducible refine (i105.out _).mono ?_); rintro e w' ⟨rfl, rfl⟩) | (go_at_call 52; (with_reducible refine (i106.out _).mono ?_); rintro e w' ⟨rfl, rfl⟩) | (go_at_call 51; (with_reducible refine (f83.out _).mono ?_); rintro e w' ⟨rfl, rfl⟩) | (go_at_call 51; (with_reducible refine (f84.out _).mono ?_); rintro e w' ⟨rfl, rfl⟩) | (go_at_call 51; (with_reducible refine (f68.out _).mono ?_); rintro e w' ⟨rfl, rfl⟩))
  have H0 := Lib.hid (EofW.start (ma := 0) (mi := mi) (nm := nm) (fs := fs) (od := od) (kd := kd) hb)
  clear hb
  generalize w1.alloc (.cells #[.string nm, .int .i64 0, .int .i64 mi, .string fs, .string od, .string kd] 123) = w2 at *
  generalize w1.heap.size = b at *
  obtain ⟨c0, c1, c2, c3, c4⟩ := H0.out.ins.cells
  obtain ⟨r0, r1, r2, r3, r4, r5⟩ := H0.out.row.cells
  go_wp2_with fail
  go_quiet (first | (go_at_call 52; exact Calls.quiet_of_same ((i83.out _).mono fun _ _ h => ⟨h.1, h.2.symm⟩)) | (go_at_call 51; exact Calls.quiet_of_same ((f83.out _).mono fun _ _ h => ⟨h.1, h.2.symm⟩)))
  have H1 := Lib.hid (H0.out.drewN nq)
  clear c0 c1 c2 c3 c4 r0 r1 r2 r3 r4 r5 H0
  generalize w2.drewN nq = w3 at *
  clear nq
  obtain ⟨c0, c1, c2, c3, c4⟩ := H1.out.ins.cells
  obtain ⟨r0, r1, r2, r3, r4, r5⟩ := H1.out.row.cells
  go_wp2_with fail
  go_quiet (first | (go_at_call 52; exact Calls.quiet_of_same ((i84.out _).mono fun _ _ h => ⟨h.1, h.2.symm⟩)) | (go_at_call 51; exact Calls.quiet_of_same ((f84.out _).mono fun _ _ h => ⟨h.1, h.2.symm⟩)))
  have H2 := Lib.hid (H1.out.drewN nq)
  clear c0 c1 c2 c3 c4 r0 r1 r2 r3 r4 r5 H1
  generalize w3.drewN nq = w4 at *
  clear nq
  obtain ⟨c0, c1, c2, c3, c4⟩ := H2.out.ins.cells
  obtain ⟨r0, r1, r2, r3, r4, r5⟩ := H2.out.row.cells
  go_wp2_with fail
  go_quiet (first | (go_at_call 52; exact Calls.quiet_of_same ((i68.out _).mono fun _ _ h => ⟨h.1, h.2.symm⟩)) | (go_at_call 51; exact Calls.quiet_of_same ((f68.out _).mono fun _ _ h => ⟨h.1, h.2.symm⟩)))
  have H3 := Lib.hid (H2.out.drewN nq)
  clear c0 c1 c2 c3 c4 r0 r1 r2 r3 r4 r5 H2
  generalize w4.drewN nq = w5 at *
  clear nq
  obtain ⟨c0, c1, c2, c3, c4⟩ := H3.out.ins.cells
  obtain ⟨r0, r1, r2, r3, r4, r5⟩ := H3.out.row.cells
  go_wp2_with (first | (go_at_call 50; (with_reducible refine (hR.out _).mono ?_); rintro e w1 ⟨rfl, hb⟩) | (go_at_call 52; (with_reducible refine (i83.out _).mono ?_); rintro e w' ⟨rfl, rfl⟩) | (go_at_call 52; (with_reducible refine (i84.out _).mono ?_); rintro e w' ⟨rfl, rfl⟩) | (go_at_call 52; (with_reducible refine (i68.out _).mono ?_); rintro e w' ⟨rfl, rfl⟩) | (go_at_call 52; (with_reducible refine (i97.out _).mono ?_); rintro e w' ⟨rfl, rfl⟩) | (go_at_call 52; (with_reducible refine (i105.out _).mono ?_); rintro e w' ⟨rfl, rfl⟩) | (go_at_call 52; (with_reducible refine (i106.out _).mono ?_); rintro e w' ⟨rfl, rfl⟩) | (go_at_call 51; (with_reducible refine (f83.out _).mono ?_); rintro e w' ⟨rfl, rfl⟩) | (go_at_call 51; (with_reducible refine (f84.out _).mono ?_); rintro e w' ⟨rfl, rfl⟩) | (go_at_call 51; (with_reducible refine (f68.out _).mono ?_); rintro e w' ⟨rfl, rfl⟩))
  go_ret2
  exact ⟨congrArg (fun z => Ending.returned (.tuple #[.int .u32 z, .int .i64 0])) (by omega), H3.out.below⟩
set_option maxHeartbeats 1000000 in
theorem encof_16 (mi : Int) (b0 : 0 ≤ mi) (b1 : mi < 16) (b2 : (mi == 16) = false) (op s t d m : Int) (nm od kd : ByteArray) (fs : ByteArray) (bS bT bD : Bool) (o0 : 1 ≤ op) (o1 : op < 54) (s0 : 0 ≤ s) (s1 : s < 32) (t0 : 0 ≤ t) (t1 : t < 32) (d0 : 0 ≤ d) (d1 : d < 32) (m0 : 0 ≤ m) (m1 : m ≤ 0)
    (hR : rowIs op 16 mi nm od kd fs) (i83 : isOfIs fs 83 bS) (i84 : isOfIs fs 84 bT) (i68 : isOfIs fs 68 bD) (i97 : isOfIs fs 97 false) (i105 : isOfIs fs 105 false) (i106 : isOfIs fs 106 false) (f83 : wellIs s bS true) (f84 : wellIs t bT true) (f68 : wellIs d bD true) (w : World) :
    Calls Tryz.prog 23 #[.agg #[.int .i64 op, .int .i64 s, .int .i64 t, .int .i64 d, .int .u32 m]] w fun e w' => e = .returned (.tuple #[.int .u32 (16 * 67108864 + s * 2097152 + t * 65536 + d * 2048 + m + mi * 2097152), .int .i64 0]) ∧ Below w.heap.size w w' := by
  go_enter Tryz.func23, Tryz.ntmps23
  go_wp2_with (first | (go_at_call 50; (with_reducible refine (hR.out _).mono ?_); rintro e w1 ⟨rfl, hb⟩) | (go_at_call 52; (with_reducible refine (i83.out _).mono ?_); rintro e w' ⟨rfl, rfl⟩) | (go_at_call 52; (with_reducible refine (i84.out _).mono ?_); rintro e w' ⟨rfl, rfl⟩) | (go_at_call 52; (with_reducible refine (i68.out _).mono ?_); rintro e w' ⟨rfl, rfl⟩) | (go_at_call 52; (with_reducible refine (i97.out _).mono ?_); rintro e w' ⟨rfl, rfl⟩) | (go_at_call 52; (with_reducible refine (i105.out _).mono ?_); rintro e w' ⟨rfl, rfl⟩) | (go_at_call 52; (with_reducible refine (i106.out _).mono ?_); rintro e w' ⟨rfl, rfl⟩) | (go_at_call 51; (with_reducible refine (f83.out _).mono ?_); rintro e w' ⟨rfl, rfl⟩) | (go_at_call 51; (with_reducible refine (f84.out _).mono ?_); rintro e w' ⟨rfl, rfl⟩) | (go_at_call 51; (with_reducible refine (f68.out _).mono ?_); rintro e w' ⟨rfl, rfl⟩))
  have H0 := Lib.hid (EofW.start (ma := 16) (mi := mi) (nm := nm) (fs := fs) (od := od) (kd := kd) hb)
  clear hb
  generalize w1.alloc (.cells #[.string nm, .int .i64 16, .int .i64 mi, .string fs, .string od, .string kd] 123) = w2 at *
  generalize w1.heap.size = b at *
  obtain ⟨c0, c1, c2, c3, c4⟩ := H0.out.ins.cells
  obtain ⟨r0, r1, r2, r3, r4, r5⟩ := H0.out.row.cells
  go_wp2_with fail
  go_quiet (first | (go_at_call 52; exact Calls.quiet_of_same ((i83.out _).mono fun _ _ h => ⟨h.1, h.2.symm⟩)) | (go_at_call 51; exact Calls.quiet_of_same ((f83.out _).mono fun _ _ h => ⟨h.1, h.2.symm⟩)))
  have H1 := Lib.hid (H0.out.drewN nq)
  clear c0 c1 c2 c3 c4 r0 r1 r2 r3 r4 r5 H0
  generalize w2.drewN nq = w3 at *
  clear nq
  obtain ⟨c0, c1, c2, c3, c4⟩ := H1.out.ins.cells
  obtain ⟨r0, r1, r2, r3, r4, r5⟩ := H1.out.row.cells
  go_wp2_with fail
  go_quiet (first | (go_at_call 52; exact Calls.quiet_of_same ((i84.out _).mono fun _ _ h => ⟨h.1, h.2.symm⟩)) | (go_at_call 51; exact Calls.quiet_of_same ((f84.out _).mono fun _ _ h => ⟨h.1, h.2.symm⟩)))
  have H2 := Lib.hid (H1.out.drewN nq)
  clear c0 c1 c2 c3 c4 r0 r1 r2 r3 r4 r5 H1
  generalize w3.drewN nq = w4 at *
  clear nq
  obtain ⟨c0, c1, c2, c3, c4⟩ := H2.out.ins.cells
  obtain ⟨r0, r1, r2, r3, r4, r5⟩ := H2.out.row.cells
  go_wp2_with fail
  go_quiet (first | (go_at_call 52; exact Calls.quiet_of_same ((i68.out _).mono fun _ _ h => ⟨h.1, h.2.symm⟩)) | (go_at_call 51; exact Calls.quiet_of_same ((f68.out _).mono fun _ _ h => ⟨h.1, h.2.symm⟩)))
  have H3 := Lib.hid (H2.out.drewN nq)
  clear c0 c1 c2 c3 c4 r0 r1 r2 r3 r4 r5 H2
  generalize w4.drewN nq = w5 at *
  clear nq
  obtain ⟨c0, c1, c2, c3, c4⟩ := H3.out.ins.cells
  obtain ⟨r0, r1, r2, r3, r4, r5⟩ := H3.out.row.cells
  go_wp2_with (first | (go_at_call 50; (with_reducible refine (hR.out _).mono ?_); rintro e w1 ⟨rfl, hb⟩) | (go_at_call 52; (with_reducible refine (i83.out _).mono ?_); rintro e w' ⟨rfl, rfl⟩) | (go_at_call 52; (with_reducible refine (i84.out _).mono ?_); rintro e w' ⟨rfl, rfl⟩) | (go_at_call 52; (with_reducible refine (i68.out _).mono ?_); rintro e w' ⟨rfl, rfl⟩) | (go_at_call 52; (with_reducible refine (i97.out _).mono ?_); rintro e w' ⟨rfl, rfl⟩) | (go_at_call 52; (with_reducible refine (i105.out _).mono ?_); rintro e w' ⟨rfl, rfl⟩) | (go_at_call 52; (with_reducible refine (i106.out _).mono ?_); rintro e w' ⟨rfl, rfl⟩) | (go_at_call 51; (with_reducible refine (f83.out _).mono ?_); rintro e w' ⟨rfl, rfl⟩) | (go_at_call 51; (with_reducible refine (f84.out _).mono ?_); rintro e w' ⟨rfl, rfl⟩) | (go_at_call 51; (with_reducible refine (f68.out _).mono ?_); rintro e w' ⟨rfl, rfl⟩))
  go_ret2
  exact ⟨congrArg (fun z => Ending.returned (.tuple #[.int .u32 z, .int .i64 0])) (by omega), H3.out.below⟩
set_option maxHeartbeats 1000000 in
theorem encof_24  (op s t d m : Int) (nm od kd : ByteArray) (fs : ByteArray) (bS bT bD : Bool) (o0 : 1 ≤ op) (o1 : op < 54) (s0 : 0 ≤ s) (s1 : s < 32) (t0 : 0 ≤ t) (t1 : t < 32) (d0 : 0 ≤ d) (d1 : d < 32) (m0 : 0 ≤ m) (m1 : m ≤ 0)
    (hR : rowIs op 16 16 nm od kd fs) (i83 : isOfIs fs 83 bS) (i84 : isOfIs fs 84 bT) (i68 : isOfIs fs 68 bD) (i97 : isOfIs fs 97 false) (i105 : isOfIs fs 105 false) (i106 : isOfIs fs 106 false) (f83 : wellIs s bS true) (f84 : wellIs t bT true) (f68 : wellIs d bD true) (w : World) :
    Calls Tryz.prog 23 #[.agg #[.int .i64 op, .int .i64 s, .int .i64 t, .int .i64 d, .int .u32 m]] w fun e w' => e = .returned (.tuple #[.int .u32 (16 * 67108864 + s * 2097152 + t * 65536 + d * 2048 + m + 33554432 + 24), .int .i64 0]) ∧ Below w.heap.size w w' := by
  go_enter Tryz.func23, Tryz.ntmps23
  go_wp2_with (first | (go_at_call 50; (with_reducible refine (hR.out _).mono ?_); rintro e w1 ⟨rfl, hb⟩) | (go_at_call 52; (with_reducible refine (i83.out _).mono ?_); rintro e w' ⟨rfl, rfl⟩) | (go_at_call 52; (with_reducible refine (i84.out _).mono ?_); rintro e w' ⟨rfl, rfl⟩) | (go_at_call 52; (with_reducible refine (i68.out _).mono ?_); rintro e w' ⟨rfl, rfl⟩) | (go_at_call 52; (with_reducible refine (i97.out _).mono ?_); rintro e w' ⟨rfl, rfl⟩) | (go_at_call 52; (with_reducible refine (i105.out _).mono ?_); rintro e w' ⟨rfl, rfl⟩) | (go_at_call 52; (with_reducible refine (i106.out _).mono ?_); rintro e w' ⟨rfl, rfl⟩) | (go_at_call 51; (with_reducible refine (f83.out _).mono ?_); rintro e w' ⟨rfl, rfl⟩) | (go_at_call 51; (with_reducible refine (f84.out _).mono ?_); rintro e w' ⟨rfl, rfl⟩) | (go_at_call 51; (with_reducible refine (f68.out _).mono ?_); rintro e w' ⟨rfl, rfl⟩))
  have H0 := Lib.hid (EofW.start (ma := 16) (mi := 16) (nm := nm) (fs := fs) (od := od) (kd := kd) hb)
  clear hb
  generalize w1.alloc (.cells #[.string nm, .int .i64 16, .int .i64 16, .string fs, .string od, .string kd] 123) = w2 at *
  generalize w1.heap.size = b at *
  obtain ⟨c0, c1, c2, c3, c4⟩ := H0.out.ins.cells
  obtain ⟨r0, r1, r2, r3, r4, r5⟩ := H0.out.row.cells
  go_wp2_with fail
  go_quiet (first | (go_at_call 52; exact Calls.quiet_of_same ((i83.out _).mono fun _ _ h => ⟨h.1, h.2.symm⟩)) | (go_at_call 51; exact Calls.quiet_of_same ((f83.out _).mono fun _ _ h => ⟨h.1, h.2.symm⟩)))
  have H1 := Lib.hid (H0.out.drewN nq)
  clear c0 c1 c2 c3 c4 r0 r1 r2 r3 r4 r5 H0
  generalize w2.drewN nq = w3 at *
  clear nq
  obtain ⟨c0, c1, c2, c3, c4⟩ := H1.out.ins.cells
  obtain ⟨r0, r1, r2, r3, r4, r5⟩ := H1.out.row.cells
  go_wp2_with fail
  go_quiet (first | (go_at_call 52; exact Calls.quiet_of_same ((i84.out _).mono fun _ _ h => ⟨h.1, h.2.symm⟩)) | (go_at_call 51; exact Calls.quiet_of_same ((f84.out _).mono fun _ _ h => ⟨h.1, h.2.symm⟩)))
  have H2 := Lib.hid (H1.out.drewN nq)
  clear c0 c1 c2 c3 c4 r0 r1 r2 r3 r4 r5 H1
  generalize w3.drewN nq = w4 at *
  clear nq
  obtain ⟨c0, c1, c2, c3, c4⟩ := H2.out.ins.cells
  obtain ⟨r0, r1, r2, r3, r4, r5⟩ := H2.out.row.cells
  go_wp2_with fail
  go_quiet (first | (go_at_call 52; exact Calls.quiet_of_same ((i68.out _).mono fun _ _ h => ⟨h.1, h.2.symm⟩)) | (go_at_call 51; exact Calls.quiet_of_same ((f68.out _).mono fun _ _ h => ⟨h.1, h.2.symm⟩)))
  have H3 := Lib.hid (H2.out.drewN nq)
  clear c0 c1 c2 c3 c4 r0 r1 r2 r3 r4 r5 H2
  generalize w4.drewN nq = w5 at *
  clear nq
  obtain ⟨c0, c1, c2, c3, c4⟩ := H3.out.ins.cells
  obtain ⟨r0, r1, r2, r3, r4, r5⟩ := H3.out.row.cells
  go_wp2_with (first | (go_at_call 50; (with_reducible refine (hR.out _).mono ?_); rintro e w1 ⟨rfl, hb⟩) | (go_at_call 52; (with_reducible refine (i83.out _).mono ?_); rintro e w' ⟨rfl, rfl⟩) | (go_at_call 52; (with_reducible refine (i84.out _).mono ?_); rintro e w' ⟨rfl, rfl⟩) | (go_at_call 52; (with_reducible refine (i68.out _).mono ?_); rintro e w' ⟨rfl, rfl⟩) | (go_at_call 52; (with_reducible refine (i97.out _).mono ?_); rintro e w' ⟨rfl, rfl⟩) | (go_at_call 52; (with_reducible refine (i105.out _).mono ?_); rintro e w' ⟨rfl, rfl⟩) | (go_at_call 52; (with_reducible refine (i106.out _).mono ?_); rintro e w' ⟨rfl, rfl⟩) | (go_at_call 51; (with_reducible refine (f83.out _).mono ?_); rintro e w' ⟨rfl, rfl⟩) | (go_at_call 51; (with_reducible refine (f84.out _).mono ?_); rintro e w' ⟨rfl, rfl⟩) | (go_at_call 51; (with_reducible refine (f68.out _).mono ?_); rintro e w' ⟨rfl, rfl⟩))
  go_ret2
  exact ⟨congrArg (fun z => Ending.returned (.tuple #[.int .u32 z, .int .i64 0])) (by omega), H3.out.below⟩
set_option maxHeartbeats 1000000 in
theorem encof_i (ma mi : Int) (a0 : 0 ≤ ma) (a1 : ma < 64) (a2 : (ma == 0) = false) (a3 : (ma == 16) = false) (op s t d m : Int) (nm od kd : ByteArray) (fs : ByteArray) (bS bT bD : Bool) (o0 : 1 ≤ op) (o1 : op < 54) (s0 : 0 ≤ s) (s1 : s < 32) (t0 : 0 ≤ t) (t1 : t < 32) (d0 : 0 ≤ d) (d1 : d < 1) (m0 : 0 ≤ m) (m1 : m ≤ 65535)
    (hR : rowIs op ma mi nm od kd fs) (i83 : isOfIs fs 83 bS) (i84 : isOfIs fs 84 bT) (i68 : isOfIs fs 68 bD) (i97 : isOfIs fs 97 false) (i105 : isOfIs fs 105 true) (i106 : isOfIs fs 106 false) (f83 : wellIs s bS true) (f84 : wellIs t bT true) (f68 : wellIs d bD true) (w : World) :
    Calls Tryz.prog 23 #[.agg #[.int .i64 op, .int .i64 s, .int .i64 t, .int .i64 d, .int .u32 m]] w fun e w' => e = .returned (.tuple #[.int .u32 (ma * 67108864 + s * 2097152 + t * 65536 + d * 2048 + m), .int .i64 0]) ∧ Below w.heap.size w w' := by
  go_enter Tryz.func23, Tryz.ntmps23
  go_wp2_with (first | (go_at_call 50; (with_reducible refine (hR.out _).mono ?_); rintro e w1 ⟨rfl, hb⟩) | (go_at_call 52; (with_reducible refine (i83.out _).mono ?_); rintro e w' ⟨rfl, rfl⟩) | (go_at_call 52; (with_reducible refine (i84.out _).mono ?_); rintro e w' ⟨rfl, rfl⟩) | (go_at_call 52; (with_reducible refine (i68.out _).mono ?_); rintro e w' ⟨rfl, rfl⟩) | (go_at_call 52; (with_reducible refine (i97.out _).mono ?_); rintro e w' ⟨rfl, rfl⟩) | (go_at_call 52; (with_reducible refine (i105.out _).mono ?_); rintro e w' ⟨rfl, rfl⟩) | (go_at_call 52; (with_reducible refine (i106.out _).mono ?_); rintro e w' ⟨rfl, rfl⟩) | (go_at_call 51; (with_reducible refine (f83.out _).mono ?_); rintro e w' ⟨rfl, rfl⟩) | (go_at_call 51; (with_reducible refine (f84.out _).mono ?_); rintro e w' ⟨rfl, rfl⟩) | (go_at_call 51; (with_reducible refine (f68.out _).mono ?_); rintro e w' ⟨rfl, rfl⟩))
  have H0 := Lib.hid (EofW.start (ma := ma) (mi := mi) (nm := nm) (fs := fs) (od := od) (kd := kd) hb)
  clear hb
  generalize w1.alloc (.cells #[.string nm, .int .i64 ma, .int .i64 mi, .string fs, .string od, .string kd] 123) = w2 at *
  generalize w1.heap.size = b at *
  obtain ⟨c0, c1, c2, c3, c4⟩ := H0.out.ins.cells
  obtain ⟨r0, r1, r2, r3, r4, r5⟩ := H0.out.row.cells
  go_wp2_with fail
  go_quiet (first | (go_at_call 52; exact Calls.quiet_of_same ((i83.out _).mono fun _ _ h => ⟨h.1, h.2.symm⟩)) | (go_at_call 51; exact Calls.quiet_of_same ((f83.out _).mono fun _ _ h => ⟨h.1, h.2.symm⟩)))
  have H1 := Lib.hid (H0.out.drewN nq)
  clear c0 c1 c2 c3 c4 r0 r1 r2 r3 r4 r5 H0
  generalize w2.drewN nq = w3 at *
  clear nq
  obtain ⟨c0, c1, c2, c3, c4⟩ := H1.out.ins.cells
  obtain ⟨r0, r1, r2, r3, r4, r5⟩ := H1.out.row.cells
  go_wp2_with fail
  go_quiet (first | (go_at_call 52; exact Calls.quiet_of_same ((i84.out _).mono fun _ _ h => ⟨h.1, h.2.symm⟩)) | (go_at_call 51; exact Calls.quiet_of_same ((f84.out _).mono fun _ _ h => ⟨h.1, h.2.symm⟩)))
  have H2 := Lib.hid (H1.out.drewN nq)
  clear c0 c1 c2 c3 c4 r0 r1 r2 r3 r4 r5 H1
  generalize w3.drewN nq = w4 at *
  clear nq
  obtain ⟨c0, c1, c2, c3, c4⟩ := H2.out.ins.cells
  obtain ⟨r0, r1, r2, r3, r4, r5⟩ := H2.out.row.cells
  go_wp2_with fail
  go_quiet (first | (go_at_call 52; exact Calls.quiet_of_same ((i68.out _).mono fun _ _ h => ⟨h.1, h.2.symm⟩)) | (go_at_call 51; exact Calls.quiet_of_same ((f68.out _).mono fun _ _ h => ⟨h.1, h.2.symm⟩)))
  have H3 := Lib.hid (H2.out.drewN nq)
  clear c0 c1 c2 c3 c4 r0 r1 r2 r3 r4 r5 H2
  generalize w4.drewN nq = w5 at *
  clear nq
  obtain ⟨c0, c1, c2, c3, c4⟩ := H3.out.ins.cells
  obtain ⟨r0, r1, r2, r3, r4, r5⟩ := H3.out.row.cells
  go_wp2_with (first | (go_at_call 50; (with_reducible refine (hR.out _).mono ?_); rintro e w1 ⟨rfl, hb⟩) | (go_at_call 52; (with_reducible refine (i83.out _).mono ?_); rintro e w' ⟨rfl, rfl⟩) | (go_at_call 52; (with_reducible refine (i84.out _).mono ?_); rintro e w' ⟨rfl, rfl⟩) | (go_at_call 52; (with_reducible refine (i68.out _).mono ?_); rintro e w' ⟨rfl, rfl⟩) | (go_at_call 52; (with_reducible refine (i97.out _).mono ?_); rintro e w' ⟨rfl, rfl⟩) | (go_at_call 52; (with_reducible refine (i105.out _).mono ?_); rintro e w' ⟨rfl, rfl⟩) | (go_at_call 52; (with_reducible refine (i106.out _).mono ?_); rintro e w' ⟨rfl, rfl⟩) | (go_at_call 51; (with_reducible refine (f83.out _).mono ?_); rintro e w' ⟨rfl, rfl⟩) | (go_at_call 51; (with_reducible refine (f84.out _).mono ?_); rintro e w' ⟨rfl, rfl⟩) | (go_at_call 51; (with_reducible refine (f68.out _).mono ?_); rintro e w' ⟨rfl, rfl⟩))
  go_ret2
  exact ⟨congrArg (fun z => Ending.returned (.tuple #[.int .u32 z, .int .i64 0])) (by omega), H3.out.below⟩
set_option maxHeartbeats 1000000 in
theorem encof_j (ma mi : Int) (a0 : 0 ≤ ma) (a1 : ma < 64) (a2 : (ma == 0) = false) (a3 : (ma == 16) = false) (op s t d m : Int) (nm od kd : ByteArray) (fs : ByteArray) (bS bT bD : Bool) (o0 : 1 ≤ op) (o1 : op < 54) (s0 : 0 ≤ s) (s1 : s < 1) (t0 : 0 ≤ t) (t1 : t < 1) (d0 : 0 ≤ d) (d1 : d < 1) (m0 : 0 ≤ m) (m1 : m ≤ 67108863)
    (hR : rowIs op ma mi nm od kd fs) (i83 : isOfIs fs 83 bS) (i84 : isOfIs fs 84 bT) (i68 : isOfIs fs 68 bD) (i97 : isOfIs fs 97 false) (i105 : isOfIs fs 105 false) (i106 : isOfIs fs 106 true) (f83 : wellIs s bS true) (f84 : wellIs t bT true) (f68 : wellIs d bD true) (w : World) :
    Calls Tryz.prog 23 #[.agg #[.int .i64 op, .int .i64 s, .int .i64 t, .int .i64 d, .int .u32 m]] w fun e w' => e = .returned (.tuple #[.int .u32 (ma * 67108864 + s * 2097152 + t * 65536 + d * 2048 + m), .int .i64 0]) ∧ Below w.heap.size w w' := by
  go_enter Tryz.func23, Tryz.ntmps23
  go_wp2_with (first | (go_at_call 50; (with_reducible refine (hR.out _).mono ?_); rintro e w1 ⟨rfl, hb⟩) | (go_at_call 52; (with_reducible refine (i83.out _).mono ?_); rintro e w' ⟨rfl, rfl⟩) | (go_at_call 52; (with_reducible refine (i84.out _).mono ?_); rintro e w' ⟨rfl, rfl⟩) | (go_at_call 52; (with_reducible refine (i68.out _).mono ?_); rintro e w' ⟨rfl, rfl⟩) | (go_at_call 52; (with_reducible refine (i97.out _).mono ?_); rintro e w' ⟨rfl, rfl⟩) | (go_at_call 52; (with_reducible refine (i105.out _).mono ?_); rintro e w' ⟨rfl, rfl⟩) | (go_at_call 52; (with_reducible refine (i106.out _).mono ?_); rintro e w' ⟨rfl, rfl⟩) | (go_at_call 51; (with_reducible refine (f83.out _).mono ?_); rintro e w' ⟨rfl, rfl⟩) | (go_at_call 51; (with_reducible refine (f84.out _).mono ?_); rintro e w' ⟨rfl, rfl⟩) | (go_at_call 51; (with_reducible refine (f68.out _).mono ?_); rintro e w' ⟨rfl, rfl⟩))
  have H0 := Lib.hid (EofW.start (ma := ma) (mi := mi) (nm := nm) (fs := fs) (od := od) (kd := kd) hb)
  clear hb
  generalize w1.alloc (.cells #[.string nm, .int .i64 ma, .int .i64 mi, .string fs, .string od, .string kd] 123) = w2 at *
  generalize w1.heap.size = b at *
  obtain ⟨c0, c1, c2, c3, c4⟩ := H0.out.ins.cells
  obtain ⟨r0, r1, r2, r3, r4, r5⟩ := H0.out.row.cells
  go_wp2_with fail
  go_quiet (first | (go_at_call 52; exact Calls.quiet_of_same ((i83.out _).mono fun _ _ h => ⟨h.1, h.2.symm⟩)) | (go_at_call 51; exact Calls.quiet_of_same ((f83.out _).mono fun _ _ h => ⟨h.1, h.2.symm⟩)))
  have H1 := Lib.hid (H0.out.drewN nq)
  clear c0 c1 c2 c3 c4 r0 r1 r2 r3 r4 r5 H0
  generalize w2.drewN nq = w3 at *
  clear nq
  obtain ⟨c0, c1, c2, c3, c4⟩ := H1.out.ins.cells
  obtain ⟨r0, r1, r2, r3, r4, r5⟩ := H1.out.row.cells
  go_wp2_with fail
  go_quiet (first | (go_at_call 52; exact Calls.quiet_of_same ((i84.out _).mono fun _ _ h => ⟨h.1, h.2.symm⟩)) | (go_at_call 51; exact Calls.quiet_of_same ((f84.out _).mono fun _ _ h => ⟨h.1, h.2.symm⟩)))
  have H2 := Lib.hid (H1.out.drewN nq)
  clear c0 c1 c2 c3 c4 r0 r1 r2 r3 r4 r5 H1
  generalize w3.drewN nq = w4 at *
  clear nq
  obtain ⟨c0, c1, c2, c3, c4⟩ := H2.out.ins.cells
  obtain ⟨r0, r1, r2, r3, r4, r5⟩ := H2.out.row.cells
  go_wp2_with fail
  go_quiet (first | (go_at_call 52; exact Calls.quiet_of_same ((i68.out _).mono fun _ _ h => ⟨h.1, h.2.symm⟩)) | (go_at_call 51; exact Calls.quiet_of_same ((f68.out _).mono fun _ _ h => ⟨h.1, h.2.symm⟩)))
  have H3 := Lib.hid (H2.out.drewN nq)
  clear c0 c1 c2 c3 c4 r0 r1 r2 r3 r4 r5 H2
  generalize w4.drewN nq = w5 at *
  clear nq
  obtain ⟨c0, c1, c2, c3, c4⟩ := H3.out.ins.cells
  obtain ⟨r0, r1, r2, r3, r4, r5⟩ := H3.out.row.cells
  go_wp2_with (first | (go_at_call 50; (with_reducible refine (hR.out _).mono ?_); rintro e w1 ⟨rfl, hb⟩) | (go_at_call 52; (with_reducible refine (i83.out _).mono ?_); rintro e w' ⟨rfl, rfl⟩) | (go_at_call 52; (with_reducible refine (i84.out _).mono ?_); rintro e w' ⟨rfl, rfl⟩) | (go_at_call 52; (with_reducible refine (i68.out _).mono ?_); rintro e w' ⟨rfl, rfl⟩) | (go_at_call 52; (with_reducible refine (i97.out _).mono ?_); rintro e w' ⟨rfl, rfl⟩) | (go_at_call 52; (with_reducible refine (i105.out _).mono ?_); rintro e w' ⟨rfl, rfl⟩) | (go_at_call 52; (with_reducible refine (i106.out _).mono ?_); rintro e w' ⟨rfl, rfl⟩) | (go_at_call 51; (with_reducible refine (f83.out _).mono ?_); rintro e w' ⟨rfl, rfl⟩) | (go_at_call 51; (with_reducible refine (f84.out _).mono ?_); rintro e w' ⟨rfl, rfl⟩) | (go_at_call 51; (with_reducible refine (f68.out _).mono ?_); rintro e w' ⟨rfl, rfl⟩))
  go_ret2
  exact ⟨congrArg (fun z => Ending.returned (.tuple #[.int .u32 z, .int .i64 0])) (by omega), H3.out.below⟩
set_option maxHeartbeats 1000000 in
theorem encof_b1 (ma mi : Int) (op s t d m : Int) (nm od kd : ByteArray) (fs : ByteArray) (bS bT bD g1 g2 g3 : Bool) (o0 : 1 ≤ op) (o1 : op < 54) (m0 : 0 ≤ m) (m2 : m < 4294967296)
    (hR : rowIs op ma mi nm od kd fs) (i83 : isOfIs fs 83 bS) (i84 : isOfIs fs 84 bT) (i68 : isOfIs fs 68 bD) (f83 : wellIs s bS false) (f84 : wellIs t bT g2) (f68 : wellIs d bD g3) (w : World) :
    Calls Tryz.prog 23 #[.agg #[.int .i64 op, .int .i64 s, .int .i64 t, .int .i64 d, .int .u32 m]] w fun e w' => e = .returned (.tuple #[.int .u32 0, .int .i64 2]) ∧ Below w.heap.size w w' := by
  go_enter Tryz.func23, Tryz.ntmps23
  go_wp2_with (first | (go_at_call 50; (with_reducible refine (hR.out _).mono ?_); rintro e w1 ⟨rfl, hb⟩) | (go_at_call 52; (with_reducible refine (i83.out _).mono ?_); rintro e w' ⟨rfl, rfl⟩) | (go_at_call 52; (with_reducible refine (i84.out _).mono ?_); rintro e w' ⟨rfl, rfl⟩) | (go_at_call 52; (with_reducible refine (i68.out _).mono ?_); rintro e w' ⟨rfl, rfl⟩) | (go_at_call 52; (with_reducible refine (i97.out _).mono ?_); rintro e w' ⟨rfl, rfl⟩) | (go_at_call 52; (with_reducible refine (i105.out _).mono ?_); rintro e w' ⟨rfl, rfl⟩) | (go_at_call 52; (with_reducible refine (i106.out _).mono ?_); rintro e w' ⟨rfl, rfl⟩) | (go_at_call 51; (with_reducible refine (f83.out _).mono ?_); rintro e w' ⟨rfl, rfl⟩) | (go_at_call 51; (with_reducible refine (f84.out _).mono ?_); rintro e w' ⟨rfl, rfl⟩) | (go_at_call 51; (with_reducible refine (f68.out _).mono ?_); rintro e w' ⟨rfl, rfl⟩))
  have H0 := Lib.hid (EofW.start (ma := ma) (mi := mi) (nm := nm) (fs := fs) (od := od) (kd := kd) hb)
  clear hb
  generalize w1.alloc (.cells #[.string nm, .int .i64 ma, .int .i64 mi, .string fs, .string od, .string kd] 123) = w2 at *
  generalize w1.heap.size = b at *
  obtain ⟨c0, c1, c2, c3, c4⟩ := H0.out.ins.cells
  obtain ⟨r0, r1, r2, r3, r4, r5⟩ := H0.out.row.cells
  go_wp2_with fail
  go_quiet (first | (go_at_call 52; exact Calls.quiet_of_same ((i83.out _).mono fun _ _ h => ⟨h.1, h.2.symm⟩)) | (go_at_call 51; exact Calls.quiet_of_same ((f83.out _).mono fun _ _ h => ⟨h.1, h.2.symm⟩)))
  have H1 := Lib.hid (H0.out.drewN nq)
  clear c0 c1 c2 c3 c4 r0 r1 r2 r3 r4 r5 H0
  generalize w2.drewN nq = w3 at *
  clear nq
  obtain ⟨c0, c1, c2, c3, c4⟩ := H1.out.ins.cells
  obtain ⟨r0, r1, r2, r3, r4, r5⟩ := H1.out.row.cells
  go_wp2_with fail
  go_quiet (first | (go_at_call 52; exact Calls.quiet_of_same ((i84.out _).mono fun _ _ h => ⟨h.1, h.2.symm⟩)) | (go_at_call 51; exact Calls.quiet_of_same ((f84.out _).mono fun _ _ h => ⟨h.1, h.2.symm⟩)))
  have H2 := Lib.hid (H1.out.drewN nq)
  clear c0 c1 c2 c3 c4 r0 r1 r2 r3 r4 r5 H1
  generalize w3.drewN nq = w4 at *
  clear nq
  obtain ⟨c0, c1, c2, c3, c4⟩ := H2.out.ins.cells
  obtain ⟨r0, r1, r2, r3, r4, r5⟩ := H2.out.row.cells
  go_wp2_with fail
  go_quiet (first | (go_at_call 52; exact Calls.quiet_of_same ((i68.out _).mono fun _ _ h => ⟨h.1, h.2.symm⟩)) | (go_at_call 51; exact Calls.quiet_of_same ((f68.out _).mono fun _ _ h => ⟨h.1, h.2.symm⟩)))
  have H3 := Lib.hid (H2.out.drewN nq)
  clear c0 c1 c2 c3 c4 r0 r1 r2 r3 r4 r5 H2
  generalize w4.drewN nq = w5 at *
  clear nq
  obtain ⟨c0, c1, c2, c3, c4⟩ := H3.out.ins.cells
  obtain ⟨r0, r1, r2, r3, r4, r5⟩ := H3.out.row.cells
  go_wp2_with fail
  all_goals
    go_ret2
    exact ⟨rfl, H3.out.below⟩
set_option maxHeartbeats 1000000 in
theorem encof_b2 (ma mi : Int) (op s t d m : Int) (nm od kd : ByteArray) (fs : ByteArray) (bS bT bD g1 g2 g3 : Bool) (o0 : 1 ≤ op) (o1 : op < 54) (m0 : 0 ≤ m) (m2 : m < 4294967296)
    (hR : rowIs op ma mi nm od kd fs) (i83 : isOfIs fs 83 bS) (i84 : isOfIs fs 84 bT) (i68 : isOfIs fs 68 bD) (f83 : wellIs s bS true) (f84 : wellIs t bT false) (f68 : wellIs d bD g3) (w : World) :
    Calls Tryz.prog 23 #[.agg #[.int .i64 op, .int .i64 s, .int .i64 t, .int .i64 d, .int .u32 m]] w fun e w' => e = .returned (.tuple #[.int .u32 0, .int .i64 2]) ∧ Below w.heap.size w w' := by
  go_enter Tryz.func23, Tryz.ntmps23
  go_wp2_with (first | (go_at_call 50; (with_reducible refine (hR.out _).mono ?_); rintro e w1 ⟨rfl, hb⟩) | (go_at_call 52; (with_reducible refine (i83.out _).mono ?_); rintro e w' ⟨rfl, rfl⟩) | (go_at_call 52; (with_reducible refine (i84.out _).mono ?_); rintro e w' ⟨rfl, rfl⟩) | (go_at_call 52; (with_reducible refine (i68.out _).mono ?_); rintro e w' ⟨rfl, rfl⟩) | (go_at_call 52; (with_reducible refine (i97.out _).mono ?_); rintro e w' ⟨rfl, rfl⟩) | (go_at_call 52; (with_reducible refine (i105.out _).mono ?_); rintro e w' ⟨rfl, rfl⟩) | (go_at_call 52; (with_reducible refine (i106.out _).mono ?_); rintro e w' ⟨rfl, rfl⟩) | (go_at_call 51; (with_reducible refine (f83.out _).mono ?_); rintro e w' ⟨rfl, rfl⟩) | (go_at_call 51; (with_reducible refine (f84.out _).mono ?_); rintro e w' ⟨rfl, rfl⟩) | (go_at_call 51; (with_reducible refine (f68.out _).mono ?_); rintro e w' ⟨rfl, rfl⟩))
  have H0 := Lib.hid (EofW.start (ma := ma) (mi := mi) (nm := nm) (fs := fs) (od := od) (kd := kd) hb)
  clear hb
  generalize w1.alloc (.cells #[.string nm, .int .i64 ma, .int .i64 mi, .string fs, .string od, .string kd] 123) = w2 at *
  generalize w1.heap.size = b at *
  obtain ⟨c0, c1, c2, c3, c4⟩ := H0.out.ins.cells
  obtain ⟨r0, r1, r2, r3, r4, r5⟩ := H0.out.row.cells
  go_wp2_with fail
  go_quiet (first | (go_at_call 52; exact Calls.quiet_of_same ((i83.out _).mono fun _ _ h => ⟨h.1, h.2.symm⟩)) | (go_at_call 51; exact Calls.quiet_of_same ((f83.out _).mono fun _ _ h => ⟨h.1, h.2.symm⟩)))
  have H1 := Lib.hid (H0.out.drewN nq)
  clear c0 c1 c2 c3 c4 r0 r1 r2 r3 r4 r5 H0
  generalize w2.drewN nq = w3 at *
  clear nq
  obtain ⟨c0, c1, c2, c3, c4⟩ := H1.out.ins.cells
  obtain ⟨r0, r1, r2, r3, r4, r5⟩ := H1.out.row.cells
  go_wp2_with fail
  go_quiet (first | (go_at_call 52; exact Calls.quiet_of_same ((i84.out _).mono fun _ _ h => ⟨h.1, h.2.symm⟩)) | (go_at_call 51; exact Calls.quiet_of_same ((f84.out _).mono fun _ _ h => ⟨h.1, h.2.symm⟩)))
  have H2 := Lib.hid (H1.out.drewN nq)
  clear c0 c1 c2 c3 c4 r0 r1 r2 r3 r4 r5 H1
  generalize w3.drewN nq = w4 at *
  clear nq
  obtain ⟨c0, c1, c2, c3, c4⟩ := H2.out.ins.cells
  obtain ⟨r0, r1, r2, r3, r4, r5⟩ := H2.out.row.cells
  go_wp2_with fail
  go_quiet (first | (go_at_call 52; exact Calls.quiet_of_same ((i68.out _).mono fun _ _ h => ⟨h.1, h.2.symm⟩)) | (go_at_call 51; exact Calls.quiet_of_same ((f68.out _).mono fun _ _ h => ⟨h.1, h.2.symm⟩)))
  have H3 := Lib.hid (H2.out.drewN nq)
  clear c0 c1 c2 c3 c4 r0 r1 r2 r3 r4 r5 H2
  generalize w4.drewN nq = w5 at *
  clear nq
  obtain ⟨c0, c1, c2, c3, c4⟩ := H3.out.ins.cells
  obtain ⟨r0, r1, r2, r3, r4, r5⟩ := H3.out.row.cells
  go_wp2_with fail
  all_goals
    go_ret2
    exact ⟨rfl, H3.out.below⟩
set_option maxHeartbeats 1000000 in
theorem encof_b3 (ma mi : Int) (op s t d m : Int) (nm od kd : ByteArray) (fs : ByteArray) (bS bT bD g1 g2 g3 : Bool) (o0 : 1 ≤ op) (o1 : op < 54) (m0 : 0 ≤ m) (m2 : m < 4294967296)
    (hR : rowIs op ma mi nm od kd fs) (i83 : isOfIs fs 83 bS) (i84 : isOfIs fs 84 bT) (i68 : isOfIs fs 68 bD) (f83 : wellIs s bS true) (f84 : wellIs t bT true) (f68 : wellIs d bD false) (w : World) :
    Calls Tryz.prog 23 #[.agg #[.int .i64 op, .int .i64 s, .int .i64 t, .int .i64 d, .int .u32 m]] w fun e w' => e = .returned (.tuple #[.int .u32 0, .int .i64 2]) ∧ Below w.heap.size w w' := by
  go_enter Tryz.func23, Tryz.ntmps23
  go_wp2_with (first | (go_at_call 50; (with_reducible refine (hR.out _).mono ?_); rintro e w1 ⟨rfl, hb⟩) | (go_at_call 52; (with_reducible refine (i83.out _).mono ?_); rintro e w' ⟨rfl, rfl⟩) | (go_at_call 52; (with_reducible refine (i84.out _).mono ?_); rintro e w' ⟨rfl, rfl⟩) | (go_at_call 52; (with_reducible refine (i68.out _).mono ?_); rintro e w' ⟨rfl, rfl⟩) | (go_at_call 52; (with_reducible refine (i97.out _).mono ?_); rintro e w' ⟨rfl, rfl⟩) | (go_at_call 52; (with_reducible refine (i105.out _).mono ?_); rintro e w' ⟨rfl, rfl⟩) | (go_at_call 52; (with_reducible refine (i106.out _).mono ?_); rintro e w' ⟨rfl, rfl⟩) | (go_at_call 51; (with_reducible refine (f83.out _).mono ?_); rintro e w' ⟨rfl, rfl⟩) | (go_at_call 51; (with_reducible refine (f84.out _).mono ?_); rintro e w' ⟨rfl, rfl⟩) | (go_at_call 51; (with_reducible refine (f68.out _).mono ?_); rintro e w' ⟨rfl, rfl⟩))
  have H0 := Lib.hid (EofW.start (ma := ma) (mi := mi) (nm := nm) (fs := fs) (od := od) (kd := kd) hb)
  clear hb
  generalize w1.alloc (.cells #[.string nm, .int .i64 ma, .int .i64 mi, .string fs, .string od, .string kd] 123) = w2 at *
  generalize w1.heap.size = b at *
  obtain ⟨c0, c1, c2, c3, c4⟩ := H0.out.ins.cells
  obtain ⟨r0, r1, r2, r3, r4, r5⟩ := H0.out.row.cells
  go_wp2_with fail
  go_quiet (first | (go_at_call 52; exact Calls.quiet_of_same ((i83.out _).mono fun _ _ h => ⟨h.1, h.2.symm⟩)) | (go_at_call 51; exact Calls.quiet_of_same ((f83.out _).mono fun _ _ h => ⟨h.1, h.2.symm⟩)))
  have H1 := Lib.hid (H0.out.drewN nq)
  clear c0 c1 c2 c3 c4 r0 r1 r2 r3 r4 r5 H0
  generalize w2.drewN nq = w3 at *
  clear nq
  obtain ⟨c0, c1, c2, c3, c4⟩ := H1.out.ins.cells
  obtain ⟨r0, r1, r2, r3, r4, r5⟩ := H1.out.row.cells
  go_wp2_with fail
  go_quiet (first | (go_at_call 52; exact Calls.quiet_of_same ((i84.out _).mono fun _ _ h => ⟨h.1, h.2.symm⟩)) | (go_at_call 51; exact Calls.quiet_of_same ((f84.out _).mono fun _ _ h => ⟨h.1, h.2.symm⟩)))
  have H2 := Lib.hid (H1.out.drewN nq)
  clear c0 c1 c2 c3 c4 r0 r1 r2 r3 r4 r5 H1
  generalize w3.drewN nq = w4 at *
  clear nq
  obtain ⟨c0, c1, c2, c3, c4⟩ := H2.out.ins.cells
  obtain ⟨r0, r1, r2, r3, r4, r5⟩ := H2.out.row.cells
  go_wp2_with fail
  go_quiet (first | (go_at_call 52; exact Calls.quiet_of_same ((i68.out _).mono fun _ _ h => ⟨h.1, h.2.symm⟩)) | (go_at_call 51; exact Calls.quiet_of_same ((f68.out _).mono fun _ _ h => ⟨h.1, h.2.symm⟩)))
  have H3 := Lib.hid (H2.out.drewN nq)
  clear c0 c1 c2 c3 c4 r0 r1 r2 r3 r4 r5 H2
  generalize w4.drewN nq = w5 at *
  clear nq
  obtain ⟨c0, c1, c2, c3, c4⟩ := H3.out.ins.cells
  obtain ⟨r0, r1, r2, r3, r4, r5⟩ := H3.out.row.cells
  go_wp2_with fail
  all_goals
    go_ret2
    exact ⟨rfl, H3.out.below⟩
set_option maxHeartbeats 1000000 in
theorem encof_m0 (ma mi : Int) (op s t d m : Int) (nm od kd : ByteArray) (fs : ByteArray) (bS bT bD g1 g2 g3 : Bool) (o0 : 1 ≤ op) (o1 : op < 54) (m0 : 0 ≤ m) (m2 : m < 4294967296)
    (hR : rowIs op ma mi nm od kd fs) (i83 : isOfIs fs 83 bS) (i84 : isOfIs fs 84 bT) (i68 : isOfIs fs 68 bD) (i97 : isOfIs fs 97 false) (i105 : isOfIs fs 105 false) (i106 : isOfIs fs 106 false) (m1 : 0 < m) (f83 : wellIs s bS true) (f84 : wellIs t bT true) (f68 : wellIs d bD true) (w : World) :
    Calls Tryz.prog 23 #[.agg #[.int .i64 op, .int .i64 s, .int .i64 t, .int .i64 d, .int .u32 m]] w fun e w' => e = .returned (.tuple #[.int .u32 0, .int .i64 2]) ∧ Below w.heap.size w w' := by
  go_enter Tryz.func23, Tryz.ntmps23
  go_wp2_with (first | (go_at_call 50; (with_reducible refine (hR.out _).mono ?_); rintro e w1 ⟨rfl, hb⟩) | (go_at_call 52; (with_reducible refine (i83.out _).mono ?_); rintro e w' ⟨rfl, rfl⟩) | (go_at_call 52; (with_reducible refine (i84.out _).mono ?_); rintro e w' ⟨rfl, rfl⟩) | (go_at_call 52; (with_reducible refine (i68.out _).mono ?_); rintro e w' ⟨rfl, rfl⟩) | (go_at_call 52; (with_reducible refine (i97.out _).mono ?_); rintro e w' ⟨rfl, rfl⟩) | (go_at_call 52; (with_reducible refine (i105.out _).mono ?_); rintro e w' ⟨rfl, rfl⟩) | (go_at_call 52; (with_reducible refine (i106.out _).mono ?_); rintro e w' ⟨rfl, rfl⟩) | (go_at_call 51; (with_reducible refine (f83.out _).mono ?_); rintro e w' ⟨rfl, rfl⟩) | (go_at_call 51; (with_reducible refine (f84.out _).mono ?_); rintro e w' ⟨rfl, rfl⟩) | (go_at_call 51; (with_reducible refine (f68.out _).mono ?_); rintro e w' ⟨rfl, rfl⟩))
  have H0 := Lib.hid (EofW.start (ma := ma) (mi := mi) (nm := nm) (fs := fs) (od := od) (kd := kd) hb)
  clear hb
  generalize w1.alloc (.cells #[.string nm, .int .i64 ma, .int .i64 mi, .string fs, .string od, .string kd] 123) = w2 at *
  generalize w1.heap.size = b at *
  obtain ⟨c0, c1, c2, c3, c4⟩ := H0.out.ins.cells
  obtain ⟨r0, r1, r2, r3, r4, r5⟩ := H0.out.row.cells
  go_wp2_with fail
  go_quiet (first | (go_at_call 52; exact Calls.quiet_of_same ((i83.out _).mono fun _ _ h => ⟨h.1, h.2.symm⟩)) | (go_at_call 51; exact Calls.quiet_of_same ((f83.out _).mono fun _ _ h => ⟨h.1, h.2.symm⟩)))
  have H1 := Lib.hid (H0.out.drewN nq)
  clear c0 c1 c2 c3 c4 r0 r1 r2 r3 r4 r5 H0
  generalize w2.drewN nq = w3 at *
  clear nq
  obtain ⟨c0, c1, c2, c3, c4⟩ := H1.out.ins.cells
  obtain ⟨r0, r1, r2, r3, r4, r5⟩ := H1.out.row.cells
  go_wp2_with fail
  go_quiet (first | (go_at_call 52; exact Calls.quiet_of_same ((i84.out _).mono fun _ _ h => ⟨h.1, h.2.symm⟩)) | (go_at_call 51; exact Calls.quiet_of_same ((f84.out _).mono fun _ _ h => ⟨h.1, h.2.symm⟩)))
  have H2 := Lib.hid (H1.out.drewN nq)
  clear c0 c1 c2 c3 c4 r0 r1 r2 r3 r4 r5 H1
  generalize w3.drewN nq = w4 at *
  clear nq
  obtain ⟨c0, c1, c2, c3, c4⟩ := H2.out.ins.cells
  obtain ⟨r0, r1, r2, r3, r4, r5⟩ := H2.out.row.cells
  go_wp2_with fail
  go_quiet (first | (go_at_call 52; exact Calls.quiet_of_same ((i68.out _).mono fun _ _ h => ⟨h.1, h.2.symm⟩)) | (go_at_call 51; exact Calls.quiet_of_same ((f68.out _).mono fun _ _ h => ⟨h.1, h.2.symm⟩)))
  have H3 := Lib.hid (H2.out.drewN nq)
  clear c0 c1 c2 c3 c4 r0 r1 r2 r3 r4 r5 H2
  generalize w4.drewN nq = w5 at *
  clear nq
  obtain ⟨c0, c1, c2, c3, c4⟩ := H3.out.ins.cells
  obtain ⟨r0, r1, r2, r3, r4, r5⟩ := H3.out.row.cells
  go_wp2_with (first | (go_at_call 50; (with_reducible refine (hR.out _).mono ?_); rintro e w1 ⟨rfl, hb⟩) | (go_at_call 52; (with_reducible refine (i83.out _).mono ?_); rintro e w' ⟨rfl, rfl⟩) | (go_at_call 52; (with_reducible refine (i84.out _).mono ?_); rintro e w' ⟨rfl, rfl⟩) | (go_at_call 52; (with_reducible refine (i68.out _).mono ?_); rintro e w' ⟨rfl, rfl⟩) | (go_at_call 52; (with_reducible refine (i97.out _).mono ?_); rintro e w' ⟨rfl, rfl⟩) | (go_at_call 52; (with_reducible refine (i105.out _).mono ?_); rintro e w' ⟨rfl, rfl⟩) | (go_at_call 52; (with_reducible refine (i106.out _).mono ?_); rintro e w' ⟨rfl, rfl⟩) | (go_at_call 51; (with_reducible refine (f83.out _).mono ?_); rintro e w' ⟨rfl, rfl⟩) | (go_at_call 51; (with_reducible refine (f84.out _).mono ?_); rintro e w' ⟨rfl, rfl⟩) | (go_at_call 51; (with_reducible refine (f68.out _).mono ?_); rintro e w' ⟨rfl, rfl⟩))
  all_goals
    go_ret2
    exact ⟨rfl, H3.out.below⟩
set_option maxHeartbeats 1000000 in
theorem encof_ma (ma mi : Int) (op s t d m : Int) (nm od kd : ByteArray) (fs : ByteArray) (bS bT bD g1 g2 g3 : Bool) (o0 : 1 ≤ op) (o1 : op < 54) (m0 : 0 ≤ m) (m2 : m < 4294967296)
    (hR : rowIs op ma mi nm od kd fs) (i83 : isOfIs fs 83 bS) (i84 : isOfIs fs 84 bT) (i68 : isOfIs fs 68 bD) (i97 : isOfIs fs 97 true) (i105 : isOfIs fs 105 false) (i106 : isOfIs fs 106 false) (m1 : 31 < m) (f83 : wellIs s bS true) (f84 : wellIs t bT true) (f68 : wellIs d bD true) (w : World) :
    Calls Tryz.prog 23 #[.agg #[.int .i64 op, .int .i64 s, .int .i64 t, .int .i64 d, .int .u32 m]] w fun e w' => e = .returned (.tuple #[.int .u32 0, .int .i64 2]) ∧ Below w.heap.size w w' := by
  go_enter Tryz.func23, Tryz.ntmps23
  go_wp2_with (first | (go_at_call 50; (with_reducible refine (hR.out _).mono ?_); rintro e w1 ⟨rfl, hb⟩) | (go_at_call 52; (with_reducible refine (i83.out _).mono ?_); rintro e w' ⟨rfl, rfl⟩) | (go_at_call 52; (with_reducible refine (i84.out _).mono ?_); rintro e w' ⟨rfl, rfl⟩) | (go_at_call 52; (with_reducible refine (i68.out _).mono ?_); rintro e w' ⟨rfl, rfl⟩) | (go_at_call 52; (with_reducible refine (i97.out _).mono ?_); rintro e w' ⟨rfl, rfl⟩) | (go_at_call 52; (with_reducible refine (i105.out _).mono ?_); rintro e w' ⟨rfl, rfl⟩) | (go_at_call 52; (with_reducible refine (i106.out _).mono ?_); rintro e w' ⟨rfl, rfl⟩) | (go_at_call 51; (with_reducible refine (f83.out _).mono ?_); rintro e w' ⟨rfl, rfl⟩) | (go_at_call 51; (with_reducible refine (f84.out _).mono ?_); rintro e w' ⟨rfl, rfl⟩) | (go_at_call 51; (with_reducible refine (f68.out _).mono ?_); rintro e w' ⟨rfl, rfl⟩))
  have H0 := Lib.hid (EofW.start (ma := ma) (mi := mi) (nm := nm) (fs := fs) (od := od) (kd := kd) hb)
  clear hb
  generalize w1.alloc (.cells #[.string nm, .int .i64 ma, .int .i64 mi, .string fs, .string od, .string kd] 123) = w2 at *
  generalize w1.heap.size = b at *
  obtain ⟨c0, c1, c2, c3, c4⟩ := H0.out.ins.cells
  obtain ⟨r0, r1, r2, r3, r4, r5⟩ := H0.out.row.cells
  go_wp2_with fail
  go_quiet (first | (go_at_call 52; exact Calls.quiet_of_same ((i83.out _).mono fun _ _ h => ⟨h.1, h.2.symm⟩)) | (go_at_call 51; exact Calls.quiet_of_same ((f83.out _).mono fun _ _ h => ⟨h.1, h.2.symm⟩)))
  have H1 := Lib.hid (H0.out.drewN nq)
  clear c0 c1 c2 c3 c4 r0 r1 r2 r3 r4 r5 H0
  generalize w2.drewN nq = w3 at *
  clear nq
  obtain ⟨c0, c1, c2, c3, c4⟩ := H1.out.ins.cells
  obtain ⟨r0, r1, r2, r3, r4, r5⟩ := H1.out.row.cells
  go_wp2_with fail
  go_quiet (first | (go_at_call 52; exact Calls.quiet_of_same ((i84.out _).mono fun _ _ h => ⟨h.1, h.2.symm⟩)) | (go_at_call 51; exact Calls.quiet_of_same ((f84.out _).mono fun _ _ h => ⟨h.1, h.2.symm⟩)))
  have H2 := Lib.hid (H1.out.drewN nq)
  clear c0 c1 c2 c3 c4 r0 r1 r2 r3 r4 r5 H1
  generalize w3.drewN nq = w4 at *
  clear nq
  obtain ⟨c0, c1, c2, c3, c4⟩ := H2.out.ins.cells
  obtain ⟨r0, r1, r2, r3, r4, r5⟩ := H2.out.row.cells
  go_wp2_with fail
  go_quiet (first | (go_at_call 52; exact Calls.quiet_of_same ((i68.out _).mono fun _ _ h => ⟨h.1, h.2.symm⟩)) | (go_at_call 51; exact Calls.quiet_of_same ((f68.out _).mono fun _ _ h => ⟨h.1, h.2.symm⟩)))
  have H3 := Lib.hid (H2.out.drewN nq)
  clear c0 c1 c2 c3 c4 r0 r1 r2 r3 r4 r5 H2
  generalize w4.drewN nq = w5 at *
  clear nq
  obtain ⟨c0, c1, c2, c3, c4⟩ := H3.out.ins.cells
  obtain ⟨r0, r1, r2, r3, r4, r5⟩ := H3.out.row.cells
  go_wp2_with (first | (go_at_call 50; (with_reducible refine (hR.out _).mono ?_); rintro e w1 ⟨rfl, hb⟩) | (go_at_call 52; (with_reducible refine (i83.out _).mono ?_); rintro e w' ⟨rfl, rfl⟩) | (go_at_call 52; (with_reducible refine (i84.out _).mono ?_); rintro e w' ⟨rfl, rfl⟩) | (go_at_call 52; (with_reducible refine (i68.out _).mono ?_); rintro e w' ⟨rfl, rfl⟩) | (go_at_call 52; (with_reducible refine (i97.out _).mono ?_); rintro e w' ⟨rfl, rfl⟩) | (go_at_call 52; (with_reducible refine (i105.out _).mono ?_); rintro e w' ⟨rfl, rfl⟩) | (go_at_call 52; (with_reducible refine (i106.out _).mono ?_); rintro e w' ⟨rfl, rfl⟩) | (go_at_call 51; (with_reducible refine (f83.out _).mono ?_); rintro e w' ⟨rfl, rfl⟩) | (go_at_call 51; (with_reducible refine (f84.out _).mono ?_); rintro e w' ⟨rfl, rfl⟩) | (go_at_call 51; (with_reducible refine (f68.out _).mono ?_); rintro e w' ⟨rfl, rfl⟩))
  all_goals
    go_ret2
    exact ⟨rfl, H3.out.below⟩
set_option maxHeartbeats 1000000 in
theorem encof_mi (ma mi : Int) (op s t d m : Int) (nm od kd : ByteArray) (fs : ByteArray) (bS bT bD g1 g2 g3 : Bool) (o0 : 1 ≤ op) (o1 : op < 54) (m0 : 0 ≤ m) (m2 : m < 4294967296)
    (hR : rowIs op ma mi nm od kd fs) (i83 : isOfIs fs 83 bS) (i84 : isOfIs fs 84 bT) (i68 : isOfIs fs 68 bD) (i97 : isOfIs fs 97 false) (i105 : isOfIs fs 105 true) (i106 : isOfIs fs 106 false) (m1 : 65535 < m) (f83 : wellIs s bS true) (f84 : wellIs t bT true) (f68 : wellIs d bD true) (w : World) :
    Calls Tryz.prog 23 #[.agg #[.int .i64 op, .int .i64 s, .int .i64 t, .int .i64 d, .int .u32 m]] w fun e w' => e = .returned (.tuple #[.int .u32 0, .int .i64 2]) ∧ Below w.heap.size w w' := by
  go_enter Tryz.func23, Tryz.ntmps23
  go_wp2_with (first | (go_at_call 50; (with_reducible refine (hR.out _).mono ?_); rintro e w1 ⟨rfl, hb⟩) | (go_at_call 52; (with_reducible refine (i83.out _).mono ?_); rintro e w' ⟨rfl, rfl⟩) | (go_at_call 52; (with_reducible refine (i84.out _).mono ?_); rintro e w' ⟨rfl, rfl⟩) | (go_at_call 52; (with_reducible refine (i68.out _).mono ?_); rintro e w' ⟨rfl, rfl⟩) | (go_at_call 52; (with_reducible refine (i97.out _).mono ?_); rintro e w' ⟨rfl, rfl⟩) | (go_at_call 52; (with_reducible refine (i105.out _).mono ?_); rintro e w' ⟨rfl, rfl⟩) | (go_at_call 52; (with_reducible refine (i106.out _).mono ?_); rintro e w' ⟨rfl, rfl⟩) | (go_at_call 51; (with_reducible refine (f83.out _).mono ?_); rintro e w' ⟨rfl, rfl⟩) | (go_at_call 51; (with_reducible refine (f84.out _).mono ?_); rintro e w' ⟨rfl, rfl⟩) | (go_at_call 51; (with_reducible refine (f68.out _).mono ?_); rintro e w' ⟨rfl, rfl⟩))
  have H0 := Lib.hid (EofW.start (ma := ma) (mi := mi) (nm := nm) (fs := fs) (od := od) (kd := kd) hb)
  clear hb
  generalize w1.alloc (.cells #[.string nm, .int .i64 ma, .int .i64 mi, .string fs, .string od, .string kd] 123) = w2 at *
  generalize w1.heap.size = b at *
  obtain ⟨c0, c1, c2, c3, c4⟩ := H0.out.ins.cells
  obtain ⟨r0, r1, r2, r3, r4, r5⟩ := H0.out.row.cells
  go_wp2_with fail
  go_quiet (first | (go_at_call 52; exact Calls.quiet_of_same ((i83.out _).mono fun _ _ h => ⟨h.1, h.2.symm⟩)) | (go_at_call 51; exact Calls.quiet_of_same ((f83.out _).mono fun _ _ h => ⟨h.1, h.2.symm⟩)))
  have H1 := Lib.hid (H0.out.drewN nq)
  clear c0 c1 c2 c3 c4 r0 r1 r2 r3 r4 r5 H0
  generalize w2.drewN nq = w3 at *
  clear nq
  obtain ⟨c0, c1, c2, c3, c4⟩ := H1.out.ins.cells
  obtain ⟨r0, r1, r2, r3, r4, r5⟩ := H1.out.row.cells
  go_wp2_with fail
  go_quiet (first | (go_at_call 52; exact Calls.quiet_of_same ((i84.out _).mono fun _ _ h => ⟨h.1, h.2.symm⟩)) | (go_at_call 51; exact Calls.quiet_of_same ((f84.out _).mono fun _ _ h => ⟨h.1, h.2.symm⟩)))
  have H2 := Lib.hid (H1.out.drewN nq)
  clear c0 c1 c2 c3 c4 r0 r1 r2 r3 r4 r5 H1
  generalize w3.drewN nq = w4 at *
  clear nq
  obtain ⟨c0, c1, c2, c3, c4⟩ := H2.out.ins.cells
  obtain ⟨r0, r1, r2, r3, r4, r5⟩ := H2.out.row.cells
  go_wp2_with fail
  go_quiet (first | (go_at_call 52; exact Calls.quiet_of_same ((i68.out _).mono fun _ _ h => ⟨h.1, h.2.symm⟩)) | (go_at_call 51; exact Calls.quiet_of_same ((f68.out _).mono fun _ _ h => ⟨h.1, h.2.symm⟩)))
  have H3 := Lib.hid (H2.out.drewN nq)
  clear c0 c1 c2 c3 c4 r0 r1 r2 r3 r4 r5 H2
  generalize w4.drewN nq = w5 at *
  clear nq
  obtain ⟨c0, c1, c2, c3, c4⟩ := H3.out.ins.cells
  obtain ⟨r0, r1, r2, r3, r4, r5⟩ := H3.out.row.cells
  go_wp2_with (first | (go_at_call 50; (with_reducible refine (hR.out _).mono ?_); rintro e w1 ⟨rfl, hb⟩) | (go_at_call 52; (with_reducible refine (i83.out _).mono ?_); rintro e w' ⟨rfl, rfl⟩) | (go_at_call 52; (with_reducible refine (i84.out _).mono ?_); rintro e w' ⟨rfl, rfl⟩) | (go_at_call 52; (with_reducible refine (i68.out _).mono ?_); rintro e w' ⟨rfl, rfl⟩) | (go_at_call 52; (with_reducible refine (i97.out _).mono ?_); rintro e w' ⟨rfl, rfl⟩) | (go_at_call 52; (with_reducible refine (i105.out _).mono ?_); rintro e w' ⟨rfl, rfl⟩) | (go_at_call 52; (with_reducible refine (i106.out _).mono ?_); rintro e w' ⟨rfl, rfl⟩) | (go_at_call 51; (with_reducible refine (f83.out _).mono ?_); rintro e w' ⟨rfl, rfl⟩) | (go_at_call 51; (with_reducible refine (f84.out _).mono ?_); rintro e w' ⟨rfl, rfl⟩) | (go_at_call 51; (with_reducible refine (f68.out _).mono ?_); rintro e w' ⟨rfl, rfl⟩))
  all_goals
    go_ret2
    exact ⟨rfl, H3.out.below⟩
set_option maxHeartbeats 1000000 in
theorem encof_mj (ma mi : Int) (op s t d m : Int) (nm od kd : ByteArray) (fs : ByteArray) (bS bT bD g1 g2 g3 : Bool) (o0 : 1 ≤ op) (o1 : op < 54) (m0 : 0 ≤ m) (m2 : m < 4294967296)
    (hR : rowIs op ma mi nm od kd fs) (i83 : isOfIs fs 83 bS) (i84 : isOfIs fs 84 bT) (i68 : isOfIs fs 68 bD) (i97 : isOfIs fs 97 false) (i105 : isOfIs fs 105 false) (i106 : isOfIs fs 106 true) (m1 : 67108863 < m) (f83 : wellIs s bS true) (f84 : wellIs t bT true) (f68 : wellIs d bD true) (w : World) :
    Calls Tryz.prog 23 #[.agg #[.int .i64 op, .int .i64 s, .int .i64 t, .int .i64 d, .int .u32 m]] w fun e w' => e = .returned (.tuple #[.int .u32 0, .int .i64 2]) ∧ Below w.heap.size w w' := by
  go_enter Tryz.func23, Tryz.ntmps23
  go_wp2_with (first | (go_at_call 50; (with_reducible refine (hR.out _).mono ?_); rintro e w1 ⟨rfl, hb⟩) | (go_at_call 52; (with_reducible refine (i83.out _).mono ?_); rintro e w' ⟨rfl, rfl⟩) | (go_at_call 52; (with_reducible refine (i84.out _).mono ?_); rintro e w' ⟨rfl, rfl⟩) | (go_at_call 52; (with_reducible refine (i68.out _).mono ?_); rintro e w' ⟨rfl, rfl⟩) | (go_at_call 52; (with_reducible refine (i97.out _).mono ?_); rintro e w' ⟨rfl, rfl⟩) | (go_at_call 52; (with_reducible refine (i105.out _).mono ?_); rintro e w' ⟨rfl, rfl⟩) | (go_at_call 52; (with_reducible refine (i106.out _).mono ?_); rintro e w' ⟨rfl, rfl⟩) | (go_at_call 51; (with_reducible refine (f83.out _).mono ?_); rintro e w' ⟨rfl, rfl⟩) | (go_at_call 51; (with_reducible refine (f84.out _).mono ?_); rintro e w' ⟨rfl, rfl⟩) | (go_at_call 51; (with_reducible refine (f68.out _).mono ?_); rintro e w' ⟨rfl, rfl⟩))
  have H0 := Lib.hid (EofW.start (ma := ma) (mi := mi) (nm := nm) (fs := fs) (od := od) (kd := kd) hb)
  clear hb
  generalize w1.alloc (.cells #[.string nm, .int .i64 ma, .int .i64 mi, .string fs, .string od, .string kd] 123) = w2 at *
  generalize w1.heap.size = b at *
  obtain ⟨c0, c1, c2, c3, c4⟩ := H0.out.ins.cells
  obtain ⟨r0, r1, r2, r3, r4, r5⟩ := H0.out.row.cells
  go_wp2_with fail
  go_quiet (first | (go_at_call 52; exact Calls.quiet_of_same ((i83.out _).mono fun _ _ h => ⟨h.1, h.2.symm⟩)) | (go_at_call 51; exact Calls.quiet_of_same ((f83.out _).mono fun _ _ h => ⟨h.1, h.2.symm⟩)))
  have H1 := Lib.hid (H0.out.drewN nq)
  clear c0 c1 c2 c3 c4 r0 r1 r2 r3 r4 r5 H0
  generalize w2.drewN nq = w3 at *
  clear nq
  obtain ⟨c0, c1, c2, c3, c4⟩ := H1.out.ins.cells
  obtain ⟨r0, r1, r2, r3, r4, r5⟩ := H1.out.row.cells
  go_wp2_with fail
  go_quiet (first | (go_at_call 52; exact Calls.quiet_of_same ((i84.out _).mono fun _ _ h => ⟨h.1, h.2.symm⟩)) | (go_at_call 51; exact Calls.quiet_of_same ((f84.out _).mono fun _ _ h => ⟨h.1, h.2.symm⟩)))
  have H2 := Lib.hid (H1.out.drewN nq)
  clear c0 c1 c2 c3 c4 r0 r1 r2 r3 r4 r5 H1
  generalize w3.drewN nq = w4 at *
  clear nq
  obtain ⟨c0, c1, c2, c3, c4⟩ := H2.out.ins.cells
  obtain ⟨r0, r1, r2, r3, r4, r5⟩ := H2.out.row.cells
  go_wp2_with fail
  go_quiet (first | (go_at_call 52; exact Calls.quiet_of_same ((i68.out _).mono fun _ _ h => ⟨h.1, h.2.symm⟩)) | (go_at_call 51; exact Calls.quiet_of_same ((f68.out _).mono fun _ _ h => ⟨h.1, h.2.symm⟩)))
  have H3 := Lib.hid (H2.out.drewN nq)
  clear c0 c1 c2 c3 c4 r0 r1 r2 r3 r4 r5 H2
  generalize w4.drewN nq = w5 at *
  clear nq
  obtain ⟨c0, c1, c2, c3, c4⟩ := H3.out.ins.cells
  obtain ⟨r0, r1, r2, r3, r4, r5⟩ := H3.out.row.cells
  go_wp2_with (first | (go_at_call 50; (with_reducible refine (hR.out _).mono ?_); rintro e w1 ⟨rfl, hb⟩) | (go_at_call 52; (with_reducible refine (i83.out _).mono ?_); rintro e w' ⟨rfl, rfl⟩) | (go_at_call 52; (with_reducible refine (i84.out _).mono ?_); rintro e w' ⟨rfl, rfl⟩) | (go_at_call 52; (with_reducible refine (i68.out _).mono ?_); rintro e w' ⟨rfl, rfl⟩) | (go_at_call 52; (with_reducible refine (i97.out _).mono ?_); rintro e w' ⟨rfl, rfl⟩) | (go_at_call 52; (with_reducible refine (i105.out _).mono ?_); rintro e w' ⟨rfl, rfl⟩) | (go_at_call 52; (with_reducible refine (i106.out _).mono ?_); rintro e w' ⟨rfl, rfl⟩) | (go_at_call 51; (with_reducible refine (f83.out _).mono ?_); rintro e w' ⟨rfl, rfl⟩) | (go_at_call 51; (with_reducible refine (f84.out _).mono ?_); rintro e w' ⟨rfl, rfl⟩) | (go_at_call 51; (with_reducible refine (f68.out _).mono ?_); rintro e w' ⟨rfl, rfl⟩))
  all_goals
    go_ret2
    exact ⟨rfl, H3.out.below⟩
theorem encof_kind (op : Int) (h : op < 1 ∨ 54 ≤ op) (s t d m : Int) (w : World) :
    Calls Tryz.prog 23 #[.agg #[.int .i64 op, .int .i64 s, .int .i64 t, .int .i64 d, .int .u32 m]] w fun e w' => e = .returned (.tuple #[.int .u32 0, .int .i64 4]) ∧ Below w.heap.size w w' := by
  go_enter Tryz.func23, Tryz.ntmps23
  go_wp2_with fail
  all_goals
    go_ret2
    exact ⟨rfl, by go_grown⟩
end Go.Proofs.YtadoaldnjnkhgaaGreatDoor
