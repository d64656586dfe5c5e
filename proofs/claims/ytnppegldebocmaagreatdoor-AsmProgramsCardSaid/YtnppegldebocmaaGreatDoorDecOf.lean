/- The walk of the document's DecodeOf: it answers as Decode does. Conditions: the word is one of 32 bits. -/
import Derived.Test.YtnppegldebocmaaGreatDoorEncB
namespace Go.Proofs.YtnppegldebocmaaGreatDoor
open Go.RowKit
set_option linter.unusedSimpArgs false
theorem RowsAt.below {w w' : World} {b B : Nat} (h : RowsAt w b) (hb : Below B w w') (hB : b < B) : RowsAt w' b := by
  intro k j v hk hv
  rw [hb.cell hB]
  exact h k j v hk hv
theorem RowsAt.allocs {w : World} {b : Nat} (h : RowsAt w b) (hB : b < w.heap.size) (o : _) : RowsAt (w.alloc o) b := h.below ((Below.refl w.heap.size w).alloc (Nat.le_refl _) o) hB
/-- What the walk of DecodeOf knows of a world. -/
structure DofW (w wr : World) (b : Nat) : Prop where
  res : Five wr w.heap.size 24 (.int .i64 0) (.int .i64 0) (.int .i64 0) (.int .i64 0) (.int .u32 0)
  rows : RowsAt wr b
  below : Below w.heap.size w wr
  lo : w.heap.size < b
  hi : b < wr.heap.size
theorem DofW.trans {w wr w' : World} {b : Nat} (h : DofW w wr b) (hb : Below wr.heap.size wr w') : DofW w w' b :=
  ⟨h.res.below hb h.res.lt, h.rows.below hb h.hi, h.below.trans (hb.mono h.below.size), h.lo, Nat.lt_of_lt_of_le h.hi hb.size⟩
theorem isOf_of {n : Nat} {l : List UInt8} (e : fieldsB n = l) (c : UInt8) (z : Int) (hz : (c.toNat : Int) = z) (b : Bool) (h : l.contains c = b) : isOfIs (bsl (fieldsB n)) z b := by
  subst e
  exact fun W => isOf_lit _ (fields_len n) c z hz b h W
theorem mat_yes (x k : Nat) (hx : x < 4294967296) (hk : k < 54) (b : Bool) (h : hitB (x : Int) (k : Int) = b) (w : World) :
    Calls Tryz.prog 87 #[.int .u32 (x : Int), rowV k] w fun e w' => e = .returned (.bool b) ∧ Below w.heap.size w w' := by
  rw [← h, ← mat_hit x k hx hk]
  exact matches_any x k hx hk w
set_option maxHeartbeats 16000000 in
theorem decodeOf_any (x : Nat) (hx : x < 4294967296) (w : World) :
    Calls Tryz.prog 55 #[.int .u32 (x : Int)] w fun e w' => e = .returned (insV (decZ (x : Int))) ∧ Below w.heap.size w w' := by
  go_enter Tryz.func55, Tryz.ntmps55
  go_wp2_with fail
  refine (rows_R _).mono ?_
  rintro e w1 ⟨b, rfl, hb0, hb1, hR, hbl⟩
  have H0 : DofW w w1 b := ⟨(Five.new w _ _ _ _ _ _).below hbl (by simp), hR, ((Below.refl _ _).alloc (Nat.le_refl _) _).trans (hbl.mono (by simp)), by simp at hb0; omega, hb1⟩
  clear hR hbl hb0 hb1
  go_wp2_with fail
  go_loopw [4] (fun v wr => ∃ n : Nat, 1 ≤ n ∧ n ≤ 54 ∧ v = .int .i64 (n : Int) ∧ Hid (∀ k : Nat, 1 ≤ k → k < n → hitB (x : Int) (k : Int) = false) ∧ DofW w wr b) (fun v _ => 54 - (intOf v).toNat)
  case atStart => exact ⟨1, by omega, by omega, rfl, by unfold Hid; omega, H0⟩
  case round =>
    obtain ⟨n, hn1, hn2, rfl, HM, HD⟩ := hrel
    by_cases hlt : n < 54
    · have r0 : wr.cell? ⟨b, n * 6, none⟩ = _ := HD.rows n 0 _ hlt rfl
      have r1 := HD.rows n 1 _ hlt rfl
      have r2 := HD.rows n 2 _ hlt rfl
      have r3 := HD.rows n 3 _ hlt rfl
      have r4 := HD.rows n 4 _ hlt rfl
      have r5 := HD.rows n 5 _ hlt rfl

      cases hh : hitB (x : Int) (n : Int)
      · have hmt := Lib.hid (mat_yes x n hx hlt false hh)
        have HH := Lib.hid hh
        clear hh
        go_wp2_with (go_at_call 87; (with_reducible refine (hmt.out _).mono ?_); rintro e w2 ⟨rfl, hb2⟩)
        go_roundw
        case rel => exact ⟨n + 1, by omega, by omega, by go_num, miss_next HM.out HH.out, HD.trans hb2⟩
        case measure => simp [intOf]; omega
      · have hmt := Lib.hid (mat_yes x n hx hlt true hh)
        have HZ : Hid (decZ (x : Int) = decAt (x : Int) (n : Int)) := by
          show _ = _
          rw [decFrom_step (x : Int) n hn1 HM.out hn2, show 54 - n = (53 - n) + 1 from by omega, decFrom, hh]
          rfl
        clear hh
        go_wp2_with fail
        refine (hmt.out _).mono ?_
        rintro e w2 ⟨rfl, hb2⟩
        have H2 := HD.trans hb2
        clear r0 r1 r2 r3 r4 r5 hmt HD hb2
        have r3 : (w2.alloc (.cells #[.int .i64 (n : Int), .int .i64 0, .int .i64 0, .int .i64 0, .int .u32 0] 24)).cell? ⟨b, n * 6 + 3, none⟩ = _ := (H2.rows.allocs H2.hi _) n 3 _ hlt rfl
        go_wp2_with fail
        clear r3
        have HF := Five.new w2 (.int .i64 (n : Int)) (.int .i64 0) (.int .i64 0) (.int .i64 0) (.int .u32 0) 24
        have H3 := H2.trans ((Below.refl w2.heap.size w2).alloc (Nat.le_refl _) (.cells #[.int .i64 (n : Int), .int .i64 0, .int .i64 0, .int .i64 0, .int .u32 0] 24))
        have hlo : w.heap.size < w2.heap.size := H2.res.lt
        clear H2
        generalize w2.alloc (.cells #[.int .i64 (n : Int), .int .i64 0, .int .i64 0, .int .i64 0, .int .u32 0] 24) = w3 at *
        generalize w2.heap.size = B at *
        have q83 : Hid (∀ W, Calls Tryz.prog 88 #[.int .u32 (x : Int), .int .i64 21, .int .i64 5] W fun e w' => e = .returned (.int .i64 ((x : Int) / 2097152 % 32)) ∧ W = w') := fun W => part_lit (x : Int) 21 5 2097152 32 (by decide) (by decide) (by omega) (by omega) (by decide) (by decide) W
        have q84 : Hid (∀ W, Calls Tryz.prog 88 #[.int .u32 (x : Int), .int .i64 16, .int .i64 5] W fun e w' => e = .returned (.int .i64 ((x : Int) / 65536 % 32)) ∧ W = w') := fun W => part_lit (x : Int) 16 5 65536 32 (by decide) (by decide) (by omega) (by omega) (by decide) (by decide) W
        have q68 : Hid (∀ W, Calls Tryz.prog 88 #[.int .u32 (x : Int), .int .i64 11, .int .i64 5] W fun e w' => e = .returned (.int .i64 ((x : Int) / 2048 % 32)) ∧ W = w') := fun W => part_lit (x : Int) 11 5 2048 32 (by decide) (by decide) (by omega) (by omega) (by decide) (by decide) W
        have q97 : Hid (∀ W, Calls Tryz.prog 88 #[.int .u32 (x : Int), .int .i64 6, .int .i64 5] W fun e w' => e = .returned (.int .i64 ((x : Int) / 64 % 32)) ∧ W = w') := fun W => part_lit (x : Int) 6 5 64 32 (by decide) (by decide) (by omega) (by omega) (by decide) (by decide) W
        have q105 : Hid (∀ W, Calls Tryz.prog 88 #[.int .u32 (x : Int), .int .i64 0, .int .i64 16] W fun e w' => e = .returned (.int .i64 ((x : Int) % 65536)) ∧ W = w') := fun W => (part_lit (x : Int) 0 16 1 65536 (by decide) (by decide) (by omega) (by omega) (by decide) (by decide) W).mono fun e w' h => ⟨by rw [h.1, Int.ediv_one], h.2⟩
        have q106 : Hid (∀ W, Calls Tryz.prog 88 #[.int .u32 (x : Int), .int .i64 0, .int .i64 26] W fun e w' => e = .returned (.int .i64 ((x : Int) % 67108864)) ∧ W = w') := fun W => (part_lit (x : Int) 0 26 1 67108864 (by decide) (by decide) (by omega) (by omega) (by decide) (by decide) W).mono fun e w' h => ⟨by rw [h.1, Int.ediv_one], h.2⟩
        have r3 := H3.rows n 3 _ hlt rfl
        obtain ⟨c0, c1, c2, c3, c4⟩ := HF.cells
        obtain ⟨g0, g1, g2, g3, g4⟩ := HF.free
        obtain ⟨e0, e1, e2, e3, e4⟩ := H3.res.cells
        obtain ⟨f0, f1, f2, f3, f4⟩ := H3.res.free
        have hx0 : (0 : Int) ≤ (x : Int) := by omega
        have HRES := Lib.hid H3.res
        have HBEL := Lib.hid H3.below
        clear H3 HF
        rcases fields_cases n with e | e | e | e | e | e | e | e | e | e | e | e
        · have HE := Lib.hid e
          clear e
          have i83 := Lib.hid (isOf_of HE.out 83 83 (by decide) false (by decide)).out
          have i84 := Lib.hid (isOf_of HE.out 84 84 (by decide) false (by decide)).out
          have i68 := Lib.hid (isOf_of HE.out 68 68 (by decide) false (by decide)).out
          have i97 := Lib.hid (isOf_of HE.out 97 97 (by decide) false (by decide)).out
          have i105 := Lib.hid (isOf_of HE.out 105 105 (by decide) false (by decide)).out
          have i106 := Lib.hid (isOf_of HE.out 106 106 (by decide) false (by decide)).out
          go_wp2_with (first | (go_at_call 32; (with_reducible refine (i83.out _).mono ?_); rintro e w' ⟨rfl, rfl⟩) | (go_at_call 32; (with_reducible refine (i84.out _).mono ?_); rintro e w' ⟨rfl, rfl⟩) | (go_at_call 32; (with_reducible refine (i68.out _).mono ?_); rintro e w' ⟨rfl, rfl⟩) | (go_at_call 32; (with_reducible refine (i97.out _).mono ?_); rintro e w' ⟨rfl, rfl⟩) | (go_at_call 32; (with_reducible refine (i105.out _).mono ?_); rintro e w' ⟨rfl, rfl⟩) | (go_at_call 32; (with_reducible refine (i106.out _).mono ?_); rintro e w' ⟨rfl, rfl⟩) | (go_at_call 88; (with_reducible refine (q83.out _).mono ?_); rintro e w' ⟨rfl, rfl⟩) | (go_at_call 88; (with_reducible refine (q84.out _).mono ?_); rintro e w' ⟨rfl, rfl⟩) | (go_at_call 88; (with_reducible refine (q68.out _).mono ?_); rintro e w' ⟨rfl, rfl⟩) | (go_at_call 88; (with_reducible refine (q97.out _).mono ?_); rintro e w' ⟨rfl, rfl⟩) | (go_at_call 88; (with_reducible refine (q105.out _).mono ?_); rintro e w' ⟨rfl, rfl⟩) | (go_at_call 88; (with_reducible refine (q106.out _).mono ?_); rintro e w' ⟨rfl, rfl⟩))
          have HFin := Five.fill HRES.out (.int .i64 ((n : Int))) (.int .i64 (0)) (.int .i64 (0)) (.int .i64 (0)) (.int .u32 (0))
          have HBF := below_fill HBEL.out (Nat.le_refl _) (.int .i64 ((n : Int))) (.int .i64 (0)) (.int .i64 (0)) (.int .i64 (0)) (.int .u32 (0))
          change bodyPost _ _ _ _ _ (fill5 w3 w.heap.size (.int .i64 ((n : Int))) (.int .i64 (0)) (.int .i64 (0)) (.int .i64 (0)) (.int .u32 (0)))
          have hv : decZ (x : Int) = ⟨(n : Int), 0, 0, 0, 0⟩ := by
            rw [HZ.out]
            simp [decAt, putL, HE.out, putF]
          clear c0 c1 c2 c3 c4 g0 g1 g2 g3 g4 e0 e1 e2 e3 e4 f0 f1 f2 f3 f4 r3
          generalize fill5 w3 w.heap.size (.int .i64 ((n : Int))) (.int .i64 (0)) (.int .i64 (0)) (.int .i64 (0)) (.int .u32 (0)) = W5 at *
          obtain ⟨p0, p1, p2', p3, p4⟩ := HFin.cells
          exact bodyPost_ret (v := insV ⟨(n : Int), 0, 0, 0, 0⟩) (by simp [results, Tryz.results55, go_sem, p0, p1, p2', p3, p4]) rfl ⟨by rw [hv], HBF⟩
        · have HE := Lib.hid e
          clear e
          have i83 := Lib.hid (isOf_of HE.out 83 83 (by decide) true (by decide)).out
          have i84 := Lib.hid (isOf_of HE.out 84 84 (by decide) false (by decide)).out
          have i68 := Lib.hid (isOf_of HE.out 68 68 (by decide) false (by decide)).out
          have i97 := Lib.hid (isOf_of HE.out 97 97 (by decide) false (by decide)).out
          have i105 := Lib.hid (isOf_of HE.out 105 105 (by decide) false (by decide)).out
          have i106 := Lib.hid (isOf_of HE.out 106 106 (by decide) false (by decide)).out
          go_wp2_with (first | (go_at_call 32; (with_reducible refine (i83.out _).mono ?_); rintro e w' ⟨rfl, rfl⟩) | (go_at_call 32; (with_reducible refine (i84.out _).mono ?_); rintro e w' ⟨rfl, rfl⟩) | (go_at_call 32; (with_reducible refine (i68.out _).mono ?_); rintro e w' ⟨rfl, rfl⟩) | (go_at_call 32; (with_reducible refine (i97.out _).mono ?_); rintro e w' ⟨rfl, rfl⟩) | (go_at_call 32; (with_reducible refine (i105.out _).mono ?_); rintro e w' ⟨rfl, rfl⟩) | (go_at_call 32; (with_reducible refine (i106.out _).mono ?_); rintro e w' ⟨rfl, rfl⟩) | (go_at_call 88; (with_reducible refine (q83.out _).mono ?_); rintro e w' ⟨rfl, rfl⟩) | (go_at_call 88; (with_reducible refine (q84.out _).mono ?_); rintro e w' ⟨rfl, rfl⟩) | (go_at_call 88; (with_reducible refine (q68.out _).mono ?_); rintro e w' ⟨rfl, rfl⟩) | (go_at_call 88; (with_reducible refine (q97.out _).mono ?_); rintro e w' ⟨rfl, rfl⟩) | (go_at_call 88; (with_reducible refine (q105.out _).mono ?_); rintro e w' ⟨rfl, rfl⟩) | (go_at_call 88; (with_reducible refine (q106.out _).mono ?_); rintro e w' ⟨rfl, rfl⟩))
          have R83 : Five (w3.setCell ⟨B, 1, none⟩ (.int .i64 ((x : Int) / 2097152 % 32))) w.heap.size 24 (.int .i64 0) (.int .i64 0) (.int .i64 0) (.int .i64 0) (.int .u32 0) := HRES.out.of_block (Below.heap_setCell _ _ _ _ (by simp; omega))
          have HFin := Five.fill R83 (.int .i64 ((n : Int))) (.int .i64 ((x : Int) / 2097152 % 32)) (.int .i64 (0)) (.int .i64 (0)) (.int .u32 (0))
          have HBF := below_fill (HBEL.out.setCell (p := ⟨B, 1, none⟩) (Nat.le_of_lt hlo) (.int .i64 ((x : Int) / 2097152 % 32))) (Nat.le_refl _) (.int .i64 ((n : Int))) (.int .i64 ((x : Int) / 2097152 % 32)) (.int .i64 (0)) (.int .i64 (0)) (.int .u32 (0))
          change bodyPost _ _ _ _ _ (fill5 (w3.setCell ⟨B, 1, none⟩ (.int .i64 ((x : Int) / 2097152 % 32))) w.heap.size (.int .i64 ((n : Int))) (.int .i64 ((x : Int) / 2097152 % 32)) (.int .i64 (0)) (.int .i64 (0)) (.int .u32 (0)))
          have hv : decZ (x : Int) = ⟨(n : Int), (x : Int) / 2097152 % 32, 0, 0, 0⟩ := by
            rw [HZ.out]
            simp [decAt, putL, HE.out, putF]
          clear c0 c1 c2 c3 c4 g0 g1 g2 g3 g4 e0 e1 e2 e3 e4 f0 f1 f2 f3 f4 r3
          generalize fill5 (w3.setCell ⟨B, 1, none⟩ (.int .i64 ((x : Int) / 2097152 % 32))) w.heap.size (.int .i64 ((n : Int))) (.int .i64 ((x : Int) / 2097152 % 32)) (.int .i64 (0)) (.int .i64 (0)) (.int .u32 (0)) = W5 at *
          obtain ⟨p0, p1, p2', p3, p4⟩ := HFin.cells
          exact bodyPost_ret (v := insV ⟨(n : Int), (x : Int) / 2097152 % 32, 0, 0, 0⟩) (by simp [results, Tryz.results55, go_sem, p0, p1, p2', p3, p4]) rfl ⟨by rw [hv], HBF⟩
        · have HE := Lib.hid e
          clear e
          have i83 := Lib.hid (isOf_of HE.out 83 83 (by decide) false (by decide)).out
          have i84 := Lib.hid (isOf_of HE.out 84 84 (by decide) false (by decide)).out
          have i68 := Lib.hid (isOf_of HE.out 68 68 (by decide) true (by decide)).out
          have i97 := Lib.hid (isOf_of HE.out 97 97 (by decide) false (by decide)).out
          have i105 := Lib.hid (isOf_of HE.out 105 105 (by decide) false (by decide)).out
          have i106 := Lib.hid (isOf_of HE.out 106 106 (by decide) false (by decide)).out
          go_wp2_with (first | (go_at_call 32; (with_reducible refine (i83.out _).mono ?_); rintro e w' ⟨rfl, rfl⟩) | (go_at_call 32; (with_reducible refine (i84.out _).mono ?_); rintro e w' ⟨rfl, rfl⟩) | (go_at_call 32; (with_reducible refine (i68.out _).mono ?_); rintro e w' ⟨rfl, rfl⟩) | (go_at_call 32; (with_reducible refine (i97.out _).mono ?_); rintro e w' ⟨rfl, rfl⟩) | (go_at_call 32; (with_reducible refine (i105.out _).mono ?_); rintro e w' ⟨rfl, rfl⟩) | (go_at_call 32; (with_reducible refine (i106.out _).mono ?_); rintro e w' ⟨rfl, rfl⟩) | (go_at_call 88; (with_reducible refine (q83.out _).mono ?_); rintro e w' ⟨rfl, rfl⟩) | (go_at_call 88; (with_reducible refine (q84.out _).mono ?_); rintro e w' ⟨rfl, rfl⟩) | (go_at_call 88; (with_reducible refine (q68.out _).mono ?_); rintro e w' ⟨rfl, rfl⟩) | (go_at_call 88; (with_reducible refine (q97.out _).mono ?_); rintro e w' ⟨rfl, rfl⟩) | (go_at_call 88; (with_reducible refine (q105.out _).mono ?_); rintro e w' ⟨rfl, rfl⟩) | (go_at_call 88; (with_reducible refine (q106.out _).mono ?_); rintro e w' ⟨rfl, rfl⟩))
          have R68 : Five (w3.setCell ⟨B, 3, none⟩ (.int .i64 ((x : Int) / 2048 % 32))) w.heap.size 24 (.int .i64 0) (.int .i64 0) (.int .i64 0) (.int .i64 0) (.int .u32 0) := HRES.out.of_block (Below.heap_setCell _ _ _ _ (by simp; omega))
          have HFin := Five.fill R68 (.int .i64 ((n : Int))) (.int .i64 (0)) (.int .i64 (0)) (.int .i64 ((x : Int) / 2048 % 32)) (.int .u32 (0))
          have HBF := below_fill (HBEL.out.setCell (p := ⟨B, 3, none⟩) (Nat.le_of_lt hlo) (.int .i64 ((x : Int) / 2048 % 32))) (Nat.le_refl _) (.int .i64 ((n : Int))) (.int .i64 (0)) (.int .i64 (0)) (.int .i64 ((x : Int) / 2048 % 32)) (.int .u32 (0))
          change bodyPost _ _ _ _ _ (fill5 (w3.setCell ⟨B, 3, none⟩ (.int .i64 ((x : Int) / 2048 % 32))) w.heap.size (.int .i64 ((n : Int))) (.int .i64 (0)) (.int .i64 (0)) (.int .i64 ((x : Int) / 2048 % 32)) (.int .u32 (0)))
          have hv : decZ (x : Int) = ⟨(n : Int), 0, 0, (x : Int) / 2048 % 32, 0⟩ := by
            rw [HZ.out]
            simp [decAt, putL, HE.out, putF]
          clear c0 c1 c2 c3 c4 g0 g1 g2 g3 g4 e0 e1 e2 e3 e4 f0 f1 f2 f3 f4 r3
          generalize fill5 (w3.setCell ⟨B, 3, none⟩ (.int .i64 ((x : Int) / 2048 % 32))) w.heap.size (.int .i64 ((n : Int))) (.int .i64 (0)) (.int .i64 (0)) (.int .i64 ((x : Int) / 2048 % 32)) (.int .u32 (0)) = W5 at *
          obtain ⟨p0, p1, p2', p3, p4⟩ := HFin.cells
          exact bodyPost_ret (v := insV ⟨(n : Int), 0, 0, (x : Int) / 2048 % 32, 0⟩) (by simp [results, Tryz.results55, go_sem, p0, p1, p2', p3, p4]) rfl ⟨by rw [hv], HBF⟩
        · have HE := Lib.hid e
          clear e
          have i83 := Lib.hid (isOf_of HE.out 83 83 (by decide) true (by decide)).out
          have i84 := Lib.hid (isOf_of HE.out 84 84 (by decide) false (by decide)).out
          have i68 := Lib.hid (isOf_of HE.out 68 68 (by decide) true (by decide)).out
          have i97 := Lib.hid (isOf_of HE.out 97 97 (by decide) false (by decide)).out
          have i105 := Lib.hid (isOf_of HE.out 105 105 (by decide) false (by decide)).out
          have i106 := Lib.hid (isOf_of HE.out 106 106 (by decide) false (by decide)).out
          go_wp2_with (first | (go_at_call 32; (with_reducible refine (i83.out _).mono ?_); rintro e w' ⟨rfl, rfl⟩) | (go_at_call 32; (with_reducible refine (i84.out _).mono ?_); rintro e w' ⟨rfl, rfl⟩) | (go_at_call 32; (with_reducible refine (i68.out _).mono ?_); rintro e w' ⟨rfl, rfl⟩) | (go_at_call 32; (with_reducible refine (i97.out _).mono ?_); rintro e w' ⟨rfl, rfl⟩) | (go_at_call 32; (with_reducible refine (i105.out _).mono ?_); rintro e w' ⟨rfl, rfl⟩) | (go_at_call 32; (with_reducible refine (i106.out _).mono ?_); rintro e w' ⟨rfl, rfl⟩) | (go_at_call 88; (with_reducible refine (q83.out _).mono ?_); rintro e w' ⟨rfl, rfl⟩) | (go_at_call 88; (with_reducible refine (q84.out _).mono ?_); rintro e w' ⟨rfl, rfl⟩) | (go_at_call 88; (with_reducible refine (q68.out _).mono ?_); rintro e w' ⟨rfl, rfl⟩) | (go_at_call 88; (with_reducible refine (q97.out _).mono ?_); rintro e w' ⟨rfl, rfl⟩) | (go_at_call 88; (with_reducible refine (q105.out _).mono ?_); rintro e w' ⟨rfl, rfl⟩) | (go_at_call 88; (with_reducible refine (q106.out _).mono ?_); rintro e w' ⟨rfl, rfl⟩))
          have R83 : Five (w3.setCell ⟨B, 1, none⟩ (.int .i64 ((x : Int) / 2097152 % 32))) w.heap.size 24 (.int .i64 0) (.int .i64 0) (.int .i64 0) (.int .i64 0) (.int .u32 0) := HRES.out.of_block (Below.heap_setCell _ _ _ _ (by simp; omega))
          have R68 : Five ((w3.setCell ⟨B, 1, none⟩ (.int .i64 ((x : Int) / 2097152 % 32))).setCell ⟨B, 3, none⟩ (.int .i64 ((x : Int) / 2048 % 32))) w.heap.size 24 (.int .i64 0) (.int .i64 0) (.int .i64 0) (.int .i64 0) (.int .u32 0) := R83.of_block (Below.heap_setCell _ _ _ _ (by simp; omega))
          have HFin := Five.fill R68 (.int .i64 ((n : Int))) (.int .i64 ((x : Int) / 2097152 % 32)) (.int .i64 (0)) (.int .i64 ((x : Int) / 2048 % 32)) (.int .u32 (0))
          have HBF := below_fill ((HBEL.out.setCell (p := ⟨B, 1, none⟩) (Nat.le_of_lt hlo) (.int .i64 ((x : Int) / 2097152 % 32))).setCell (p := ⟨B, 3, none⟩) (Nat.le_of_lt hlo) (.int .i64 ((x : Int) / 2048 % 32))) (Nat.le_refl _) (.int .i64 ((n : Int))) (.int .i64 ((x : Int) / 2097152 % 32)) (.int .i64 (0)) (.int .i64 ((x : Int) / 2048 % 32)) (.int .u32 (0))
          change bodyPost _ _ _ _ _ (fill5 ((w3.setCell ⟨B, 1, none⟩ (.int .i64 ((x : Int) / 2097152 % 32))).setCell ⟨B, 3, none⟩ (.int .i64 ((x : Int) / 2048 % 32))) w.heap.size (.int .i64 ((n : Int))) (.int .i64 ((x : Int) / 2097152 % 32)) (.int .i64 (0)) (.int .i64 ((x : Int) / 2048 % 32)) (.int .u32 (0)))
          have hv : decZ (x : Int) = ⟨(n : Int), (x : Int) / 2097152 % 32, 0, (x : Int) / 2048 % 32, 0⟩ := by
            rw [HZ.out]
            simp [decAt, putL, HE.out, putF]
          clear c0 c1 c2 c3 c4 g0 g1 g2 g3 g4 e0 e1 e2 e3 e4 f0 f1 f2 f3 f4 r3
          generalize fill5 ((w3.setCell ⟨B, 1, none⟩ (.int .i64 ((x : Int) / 2097152 % 32))).setCell ⟨B, 3, none⟩ (.int .i64 ((x : Int) / 2048 % 32))) w.heap.size (.int .i64 ((n : Int))) (.int .i64 ((x : Int) / 2097152 % 32)) (.int .i64 (0)) (.int .i64 ((x : Int) / 2048 % 32)) (.int .u32 (0)) = W5 at *
          obtain ⟨p0, p1, p2', p3, p4⟩ := HFin.cells
          exact bodyPost_ret (v := insV ⟨(n : Int), (x : Int) / 2097152 % 32, 0, (x : Int) / 2048 % 32, 0⟩) (by simp [results, Tryz.results55, go_sem, p0, p1, p2', p3, p4]) rfl ⟨by rw [hv], HBF⟩
        · have HE := Lib.hid e
          clear e
          have i83 := Lib.hid (isOf_of HE.out 83 83 (by decide) true (by decide)).out
          have i84 := Lib.hid (isOf_of HE.out 84 84 (by decide) true (by decide)).out
          have i68 := Lib.hid (isOf_of HE.out 68 68 (by decide) false (by decide)).out
          have i97 := Lib.hid (isOf_of HE.out 97 97 (by decide) false (by decide)).out
          have i105 := Lib.hid (isOf_of HE.out 105 105 (by decide) false (by decide)).out
          have i106 := Lib.hid (isOf_of HE.out 106 106 (by decide) false (by decide)).out
          go_wp2_with (first | (go_at_call 32; (with_reducible refine (i83.out _).mono ?_); rintro e w' ⟨rfl, rfl⟩) | (go_at_call 32; (with_reducible refine (i84.out _).mono ?_); rintro e w' ⟨rfl, rfl⟩) | (go_at_call 32; (with_reducible refine (i68.out _).mono ?_); rintro e w' ⟨rfl, rfl⟩) | (go_at_call 32; (with_reducible refine (i97.out _).mono ?_); rintro e w' ⟨rfl, rfl⟩) | (go_at_call 32; (with_reducible refine (i105.out _).mono ?_); rintro e w' ⟨rfl, rfl⟩) | (go_at_call 32; (with_reducible refine (i106.out _).mono ?_); rintro e w' ⟨rfl, rfl⟩) | (go_at_call 88; (with_reducible refine (q83.out _).mono ?_); rintro e w' ⟨rfl, rfl⟩) | (go_at_call 88; (with_reducible refine (q84.out _).mono ?_); rintro e w' ⟨rfl, rfl⟩) | (go_at_call 88; (with_reducible refine (q68.out _).mono ?_); rintro e w' ⟨rfl, rfl⟩) | (go_at_call 88; (with_reducible refine (q97.out _).mono ?_); rintro e w' ⟨rfl, rfl⟩) | (go_at_call 88; (with_reducible refine (q105.out _).mono ?_); rintro e w' ⟨rfl, rfl⟩) | (go_at_call 88; (with_reducible refine (q106.out _).mono ?_); rintro e w' ⟨rfl, rfl⟩))
          have R83 : Five (w3.setCell ⟨B, 1, none⟩ (.int .i64 ((x : Int) / 2097152 % 32))) w.heap.size 24 (.int .i64 0) (.int .i64 0) (.int .i64 0) (.int .i64 0) (.int .u32 0) := HRES.out.of_block (Below.heap_setCell _ _ _ _ (by simp; omega))
          have R84 : Five ((w3.setCell ⟨B, 1, none⟩ (.int .i64 ((x : Int) / 2097152 % 32))).setCell ⟨B, 2, none⟩ (.int .i64 ((x : Int) / 65536 % 32))) w.heap.size 24 (.int .i64 0) (.int .i64 0) (.int .i64 0) (.int .i64 0) (.int .u32 0) := R83.of_block (Below.heap_setCell _ _ _ _ (by simp; omega))
          have HFin := Five.fill R84 (.int .i64 ((n : Int))) (.int .i64 ((x : Int) / 2097152 % 32)) (.int .i64 ((x : Int) / 65536 % 32)) (.int .i64 (0)) (.int .u32 (0))
          have HBF := below_fill ((HBEL.out.setCell (p := ⟨B, 1, none⟩) (Nat.le_of_lt hlo) (.int .i64 ((x : Int) / 2097152 % 32))).setCell (p := ⟨B, 2, none⟩) (Nat.le_of_lt hlo) (.int .i64 ((x : Int) / 65536 % 32))) (Nat.le_refl _) (.int .i64 ((n : Int))) (.int .i64 ((x : Int) / 2097152 % 32)) (.int .i64 ((x : Int) / 65536 % 32)) (.int .i64 (0)) (.int .u32 (0))
          change bodyPost _ _ _ _ _ (fill5 ((w3.setCell ⟨B, 1, none⟩ (.int .i64 ((x : Int) / 2097152 % 32))).setCell ⟨B, 2, none⟩ (.int .i64 ((x : Int) / 65536 % 32))) w.heap.size (.int .i64 ((n : Int))) (.int .i64 ((x : Int) / 2097152 % 32)) (.int .i64 ((x : Int) / 65536 % 32)) (.int .i64 (0)) (.int .u32 (0)))
          have hv : decZ (x : Int) = ⟨(n : Int), (x : Int) / 2097152 % 32, (x : Int) / 65536 % 32, 0, 0⟩ := by
            rw [HZ.out]
            simp [decAt, putL, HE.out, putF]
          clear c0 c1 c2 c3 c4 g0 g1 g2 g3 g4 e0 e1 e2 e3 e4 f0 f1 f2 f3 f4 r3
          generalize fill5 ((w3.setCell ⟨B, 1, none⟩ (.int .i64 ((x : Int) / 2097152 % 32))).setCell ⟨B, 2, none⟩ (.int .i64 ((x : Int) / 65536 % 32))) w.heap.size (.int .i64 ((n : Int))) (.int .i64 ((x : Int) / 2097152 % 32)) (.int .i64 ((x : Int) / 65536 % 32)) (.int .i64 (0)) (.int .u32 (0)) = W5 at *
          obtain ⟨p0, p1, p2', p3, p4⟩ := HFin.cells
          exact bodyPost_ret (v := insV ⟨(n : Int), (x : Int) / 2097152 % 32, (x : Int) / 65536 % 32, 0, 0⟩) (by simp [results, Tryz.results55, go_sem, p0, p1, p2', p3, p4]) rfl ⟨by rw [hv], HBF⟩
        · have HE := Lib.hid e
          clear e
          have i83 := Lib.hid (isOf_of HE.out 83 83 (by decide) false (by decide)).out
          have i84 := Lib.hid (isOf_of HE.out 84 84 (by decide) true (by decide)).out
          have i68 := Lib.hid (isOf_of HE.out 68 68 (by decide) true (by decide)).out
          have i97 := Lib.hid (isOf_of HE.out 97 97 (by decide) true (by decide)).out
          have i105 := Lib.hid (isOf_of HE.out 105 105 (by decide) false (by decide)).out
          have i106 := Lib.hid (isOf_of HE.out 106 106 (by decide) false (by decide)).out
          go_wp2_with (first | (go_at_call 32; (with_reducible refine (i83.out _).mono ?_); rintro e w' ⟨rfl, rfl⟩) | (go_at_call 32; (with_reducible refine (i84.out _).mono ?_); rintro e w' ⟨rfl, rfl⟩) | (go_at_call 32; (with_reducible refine (i68.out _).mono ?_); rintro e w' ⟨rfl, rfl⟩) | (go_at_call 32; (with_reducible refine (i97.out _).mono ?_); rintro e w' ⟨rfl, rfl⟩) | (go_at_call 32; (with_reducible refine (i105.out _).mono ?_); rintro e w' ⟨rfl, rfl⟩) | (go_at_call 32; (with_reducible refine (i106.out _).mono ?_); rintro e w' ⟨rfl, rfl⟩) | (go_at_call 88; (with_reducible refine (q83.out _).mono ?_); rintro e w' ⟨rfl, rfl⟩) | (go_at_call 88; (with_reducible refine (q84.out _).mono ?_); rintro e w' ⟨rfl, rfl⟩) | (go_at_call 88; (with_reducible refine (q68.out _).mono ?_); rintro e w' ⟨rfl, rfl⟩) | (go_at_call 88; (with_reducible refine (q97.out _).mono ?_); rintro e w' ⟨rfl, rfl⟩) | (go_at_call 88; (with_reducible refine (q105.out _).mono ?_); rintro e w' ⟨rfl, rfl⟩) | (go_at_call 88; (with_reducible refine (q106.out _).mono ?_); rintro e w' ⟨rfl, rfl⟩))
          have R84 : Five (w3.setCell ⟨B, 2, none⟩ (.int .i64 ((x : Int) / 65536 % 32))) w.heap.size 24 (.int .i64 0) (.int .i64 0) (.int .i64 0) (.int .i64 0) (.int .u32 0) := HRES.out.of_block (Below.heap_setCell _ _ _ _ (by simp; omega))
          have R68 : Five ((w3.setCell ⟨B, 2, none⟩ (.int .i64 ((x : Int) / 65536 % 32))).setCell ⟨B, 3, none⟩ (.int .i64 ((x : Int) / 2048 % 32))) w.heap.size 24 (.int .i64 0) (.int .i64 0) (.int .i64 0) (.int .i64 0) (.int .u32 0) := R84.of_block (Below.heap_setCell _ _ _ _ (by simp; omega))
          have R97 : Five (((w3.setCell ⟨B, 2, none⟩ (.int .i64 ((x : Int) / 65536 % 32))).setCell ⟨B, 3, none⟩ (.int .i64 ((x : Int) / 2048 % 32))).setCell ⟨B, 4, none⟩ (.int .u32 ((x : Int) / 64 % 32))) w.heap.size 24 (.int .i64 0) (.int .i64 0) (.int .i64 0) (.int .i64 0) (.int .u32 0) := R68.of_block (Below.heap_setCell _ _ _ _ (by simp; omega))
          have HFin := Five.fill R97 (.int .i64 ((n : Int))) (.int .i64 (0)) (.int .i64 ((x : Int) / 65536 % 32)) (.int .i64 ((x : Int) / 2048 % 32)) (.int .u32 ((x : Int) / 64 % 32))
          have HBF := below_fill (((HBEL.out.setCell (p := ⟨B, 2, none⟩) (Nat.le_of_lt hlo) (.int .i64 ((x : Int) / 65536 % 32))).setCell (p := ⟨B, 3, none⟩) (Nat.le_of_lt hlo) (.int .i64 ((x : Int) / 2048 % 32))).setCell (p := ⟨B, 4, none⟩) (Nat.le_of_lt hlo) (.int .u32 ((x : Int) / 64 % 32))) (Nat.le_refl _) (.int .i64 ((n : Int))) (.int .i64 (0)) (.int .i64 ((x : Int) / 65536 % 32)) (.int .i64 ((x : Int) / 2048 % 32)) (.int .u32 ((x : Int) / 64 % 32))
          change bodyPost _ _ _ _ _ (fill5 (((w3.setCell ⟨B, 2, none⟩ (.int .i64 ((x : Int) / 65536 % 32))).setCell ⟨B, 3, none⟩ (.int .i64 ((x : Int) / 2048 % 32))).setCell ⟨B, 4, none⟩ (.int .u32 ((x : Int) / 64 % 32))) w.heap.size (.int .i64 ((n : Int))) (.int .i64 (0)) (.int .i64 ((x : Int) / 65536 % 32)) (.int .i64 ((x : Int) / 2048 % 32)) (.int .u32 ((x : Int) / 64 % 32)))
          have hv : decZ (x : Int) = ⟨(n : Int), 0, (x : Int) / 65536 % 32, (x : Int) / 2048 % 32, (x : Int) / 64 % 32⟩ := by
            rw [HZ.out]
            simp [decAt, putL, HE.out, putF]
          clear c0 c1 c2 c3 c4 g0 g1 g2 g3 g4 e0 e1 e2 e3 e4 f0 f1 f2 f3 f4 r3
          generalize fill5 (((w3.setCell ⟨B, 2, none⟩ (.int .i64 ((x : Int) / 65536 % 32))).setCell ⟨B, 3, none⟩ (.int .i64 ((x : Int) / 2048 % 32))).setCell ⟨B, 4, none⟩ (.int .u32 ((x : Int) / 64 % 32))) w.heap.size (.int .i64 ((n : Int))) (.int .i64 (0)) (.int .i64 ((x : Int) / 65536 % 32)) (.int .i64 ((x : Int) / 2048 % 32)) (.int .u32 ((x : Int) / 64 % 32)) = W5 at *
          obtain ⟨p0, p1, p2', p3, p4⟩ := HFin.cells
          exact bodyPost_ret (v := insV ⟨(n : Int), 0, (x : Int) / 65536 % 32, (x : Int) / 2048 % 32, (x : Int) / 64 % 32⟩) (by simp [results, Tryz.results55, go_sem, p0, p1, p2', p3, p4]) rfl ⟨by rw [hv], HBF⟩
        · have HE := Lib.hid e
          clear e
          have i83 := Lib.hid (isOf_of HE.out 83 83 (by decide) true (by decide)).out
          have i84 := Lib.hid (isOf_of HE.out 84 84 (by decide) true (by decide)).out
          have i68 := Lib.hid (isOf_of HE.out 68 68 (by decide) true (by decide)).out
          have i97 := Lib.hid (isOf_of HE.out 97 97 (by decide) false (by decide)).out
          have i105 := Lib.hid (isOf_of HE.out 105 105 (by decide) false (by decide)).out
          have i106 := Lib.hid (isOf_of HE.out 106 106 (by decide) false (by decide)).out
          go_wp2_with (first | (go_at_call 32; (with_reducible refine (i83.out _).mono ?_); rintro e w' ⟨rfl, rfl⟩) | (go_at_call 32; (with_reducible refine (i84.out _).mono ?_); rintro e w' ⟨rfl, rfl⟩) | (go_at_call 32; (with_reducible refine (i68.out _).mono ?_); rintro e w' ⟨rfl, rfl⟩) | (go_at_call 32; (with_reducible refine (i97.out _).mono ?_); rintro e w' ⟨rfl, rfl⟩) | (go_at_call 32; (with_reducible refine (i105.out _).mono ?_); rintro e w' ⟨rfl, rfl⟩) | (go_at_call 32; (with_reducible refine (i106.out _).mono ?_); rintro e w' ⟨rfl, rfl⟩) | (go_at_call 88; (with_reducible refine (q83.out _).mono ?_); rintro e w' ⟨rfl, rfl⟩) | (go_at_call 88; (with_reducible refine (q84.out _).mono ?_); rintro e w' ⟨rfl, rfl⟩) | (go_at_call 88; (with_reducible refine (q68.out _).mono ?_); rintro e w' ⟨rfl, rfl⟩) | (go_at_call 88; (with_reducible refine (q97.out _).mono ?_); rintro e w' ⟨rfl, rfl⟩) | (go_at_call 88; (with_reducible refine (q105.out _).mono ?_); rintro e w' ⟨rfl, rfl⟩) | (go_at_call 88; (with_reducible refine (q106.out _).mono ?_); rintro e w' ⟨rfl, rfl⟩))
          have R83 : Five (w3.setCell ⟨B, 1, none⟩ (.int .i64 ((x : Int) / 2097152 % 32))) w.heap.size 24 (.int .i64 0) (.int .i64 0) (.int .i64 0) (.int .i64 0) (.int .u32 0) := HRES.out.of_block (Below.heap_setCell _ _ _ _ (by simp; omega))
          have R84 : Five ((w3.setCell ⟨B, 1, none⟩ (.int .i64 ((x : Int) / 2097152 % 32))).setCell ⟨B, 2, none⟩ (.int .i64 ((x : Int) / 65536 % 32))) w.heap.size 24 (.int .i64 0) (.int .i64 0) (.int .i64 0) (.int .i64 0) (.int .u32 0) := R83.of_block (Below.heap_setCell _ _ _ _ (by simp; omega))
          have R68 : Five (((w3.setCell ⟨B, 1, none⟩ (.int .i64 ((x : Int) / 2097152 % 32))).setCell ⟨B, 2, none⟩ (.int .i64 ((x : Int) / 65536 % 32))).setCell ⟨B, 3, none⟩ (.int .i64 ((x : Int) / 2048 % 32))) w.heap.size 24 (.int .i64 0) (.int .i64 0) (.int .i64 0) (.int .i64 0) (.int .u32 0) := R84.of_block (Below.heap_setCell _ _ _ _ (by simp; omega))
          have HFin := Five.fill R68 (.int .i64 ((n : Int))) (.int .i64 ((x : Int) / 2097152 % 32)) (.int .i64 ((x : Int) / 65536 % 32)) (.int .i64 ((x : Int) / 2048 % 32)) (.int .u32 (0))
          have HBF := below_fill (((HBEL.out.setCell (p := ⟨B, 1, none⟩) (Nat.le_of_lt hlo) (.int .i64 ((x : Int) / 2097152 % 32))).setCell (p := ⟨B, 2, none⟩) (Nat.le_of_lt hlo) (.int .i64 ((x : Int) / 65536 % 32))).setCell (p := ⟨B, 3, none⟩) (Nat.le_of_lt hlo) (.int .i64 ((x : Int) / 2048 % 32))) (Nat.le_refl _) (.int .i64 ((n : Int))) (.int .i64 ((x : Int) / 2097152 % 32)) (.int .i64 ((x : Int) / 65536 % 32)) (.int .i64 ((x : Int) / 2048 % 32)) (.int .u32 (0))
          change bodyPost _ _ _ _ _ (fill5 (((w3.setCell ⟨B, 1, none⟩ (.int .i64 ((x : Int) / 2097152 % 32))).setCell ⟨B, 2, none⟩ (.int .i64 ((x : Int) / 65536 % 32))).setCell ⟨B, 3, none⟩ (.int .i64 ((x : Int) / 2048 % 32))) w.heap.size (.int .i64 ((n : Int))) (.int .i64 ((x : Int) / 2097152 % 32)) (.int .i64 ((x : Int) / 65536 % 32)) (.int .i64 ((x : Int) / 2048 % 32)) (.int .u32 (0)))
          have hv : decZ (x : Int) = ⟨(n : Int), (x : Int) / 2097152 % 32, (x : Int) / 65536 % 32, (x : Int) / 2048 % 32, 0⟩ := by
            rw [HZ.out]
            simp [decAt, putL, HE.out, putF]
          clear c0 c1 c2 c3 c4 g0 g1 g2 g3 g4 e0 e1 e2 e3 e4 f0 f1 f2 f3 f4 r3
          generalize fill5 (((w3.setCell ⟨B, 1, none⟩ (.int .i64 ((x : Int) / 2097152 % 32))).setCell ⟨B, 2, none⟩ (.int .i64 ((x : Int) / 65536 % 32))).setCell ⟨B, 3, none⟩ (.int .i64 ((x : Int) / 2048 % 32))) w.heap.size (.int .i64 ((n : Int))) (.int .i64 ((x : Int) / 2097152 % 32)) (.int .i64 ((x : Int) / 65536 % 32)) (.int .i64 ((x : Int) / 2048 % 32)) (.int .u32 (0)) = W5 at *
          obtain ⟨p0, p1, p2', p3, p4⟩ := HFin.cells
          exact bodyPost_ret (v := insV ⟨(n : Int), (x : Int) / 2097152 % 32, (x : Int) / 65536 % 32, (x : Int) / 2048 % 32, 0⟩) (by simp [results, Tryz.results55, go_sem, p0, p1, p2', p3, p4]) rfl ⟨by rw [hv], HBF⟩
        · have HE := Lib.hid e
          clear e
          have i83 := Lib.hid (isOf_of HE.out 83 83 (by decide) false (by decide)).out
          have i84 := Lib.hid (isOf_of HE.out 84 84 (by decide) false (by decide)).out
          have i68 := Lib.hid (isOf_of HE.out 68 68 (by decide) false (by decide)).out
          have i97 := Lib.hid (isOf_of HE.out 97 97 (by decide) false (by decide)).out
          have i105 := Lib.hid (isOf_of HE.out 105 105 (by decide) false (by decide)).out
          have i106 := Lib.hid (isOf_of HE.out 106 106 (by decide) true (by decide)).out
          go_wp2_with (first | (go_at_call 32; (with_reducible refine (i83.out _).mono ?_); rintro e w' ⟨rfl, rfl⟩) | (go_at_call 32; (with_reducible refine (i84.out _).mono ?_); rintro e w' ⟨rfl, rfl⟩) | (go_at_call 32; (with_reducible refine (i68.out _).mono ?_); rintro e w' ⟨rfl, rfl⟩) | (go_at_call 32; (with_reducible refine (i97.out _).mono ?_); rintro e w' ⟨rfl, rfl⟩) | (go_at_call 32; (with_reducible refine (i105.out _).mono ?_); rintro e w' ⟨rfl, rfl⟩) | (go_at_call 32; (with_reducible refine (i106.out _).mono ?_); rintro e w' ⟨rfl, rfl⟩) | (go_at_call 88; (with_reducible refine (q83.out _).mono ?_); rintro e w' ⟨rfl, rfl⟩) | (go_at_call 88; (with_reducible refine (q84.out _).mono ?_); rintro e w' ⟨rfl, rfl⟩) | (go_at_call 88; (with_reducible refine (q68.out _).mono ?_); rintro e w' ⟨rfl, rfl⟩) | (go_at_call 88; (with_reducible refine (q97.out _).mono ?_); rintro e w' ⟨rfl, rfl⟩) | (go_at_call 88; (with_reducible refine (q105.out _).mono ?_); rintro e w' ⟨rfl, rfl⟩) | (go_at_call 88; (with_reducible refine (q106.out _).mono ?_); rintro e w' ⟨rfl, rfl⟩))
          have R106 : Five (w3.setCell ⟨B, 4, none⟩ (.int .u32 ((x : Int) % 67108864))) w.heap.size 24 (.int .i64 0) (.int .i64 0) (.int .i64 0) (.int .i64 0) (.int .u32 0) := HRES.out.of_block (Below.heap_setCell _ _ _ _ (by simp; omega))
          have HFin := Five.fill R106 (.int .i64 ((n : Int))) (.int .i64 (0)) (.int .i64 (0)) (.int .i64 (0)) (.int .u32 ((x : Int) % 67108864))
          have HBF := below_fill (HBEL.out.setCell (p := ⟨B, 4, none⟩) (Nat.le_of_lt hlo) (.int .u32 ((x : Int) % 67108864))) (Nat.le_refl _) (.int .i64 ((n : Int))) (.int .i64 (0)) (.int .i64 (0)) (.int .i64 (0)) (.int .u32 ((x : Int) % 67108864))
          change bodyPost _ _ _ _ _ (fill5 (w3.setCell ⟨B, 4, none⟩ (.int .u32 ((x : Int) % 67108864))) w.heap.size (.int .i64 ((n : Int))) (.int .i64 (0)) (.int .i64 (0)) (.int .i64 (0)) (.int .u32 ((x : Int) % 67108864)))
          have hv : decZ (x : Int) = ⟨(n : Int), 0, 0, 0, (x : Int) % 67108864⟩ := by
            rw [HZ.out]
            simp [decAt, putL, HE.out, putF]
          clear c0 c1 c2 c3 c4 g0 g1 g2 g3 g4 e0 e1 e2 e3 e4 f0 f1 f2 f3 f4 r3
          generalize fill5 (w3.setCell ⟨B, 4, none⟩ (.int .u32 ((x : Int) % 67108864))) w.heap.size (.int .i64 ((n : Int))) (.int .i64 (0)) (.int .i64 (0)) (.int .i64 (0)) (.int .u32 ((x : Int) % 67108864)) = W5 at *
          obtain ⟨p0, p1, p2', p3, p4⟩ := HFin.cells
          exact bodyPost_ret (v := insV ⟨(n : Int), 0, 0, 0, (x : Int) % 67108864⟩) (by simp [results, Tryz.results55, go_sem, p0, p1, p2', p3, p4]) rfl ⟨by rw [hv], HBF⟩
        · have HE := Lib.hid e
          clear e
          have i83 := Lib.hid (isOf_of HE.out 83 83 (by decide) true (by decide)).out
          have i84 := Lib.hid (isOf_of HE.out 84 84 (by decide) true (by decide)).out
          have i68 := Lib.hid (isOf_of HE.out 68 68 (by decide) false (by decide)).out
          have i97 := Lib.hid (isOf_of HE.out 97 97 (by decide) false (by decide)).out
          have i105 := Lib.hid (isOf_of HE.out 105 105 (by decide) true (by decide)).out
          have i106 := Lib.hid (isOf_of HE.out 106 106 (by decide) false (by decide)).out
          go_wp2_with (first | (go_at_call 32; (with_reducible refine (i83.out _).mono ?_); rintro e w' ⟨rfl, rfl⟩) | (go_at_call 32; (with_reducible refine (i84.out _).mono ?_); rintro e w' ⟨rfl, rfl⟩) | (go_at_call 32; (with_reducible refine (i68.out _).mono ?_); rintro e w' ⟨rfl, rfl⟩) | (go_at_call 32; (with_reducible refine (i97.out _).mono ?_); rintro e w' ⟨rfl, rfl⟩) | (go_at_call 32; (with_reducible refine (i105.out _).mono ?_); rintro e w' ⟨rfl, rfl⟩) | (go_at_call 32; (with_reducible refine (i106.out _).mono ?_); rintro e w' ⟨rfl, rfl⟩) | (go_at_call 88; (with_reducible refine (q83.out _).mono ?_); rintro e w' ⟨rfl, rfl⟩) | (go_at_call 88; (with_reducible refine (q84.out _).mono ?_); rintro e w' ⟨rfl, rfl⟩) | (go_at_call 88; (with_reducible refine (q68.out _).mono ?_); rintro e w' ⟨rfl, rfl⟩) | (go_at_call 88; (with_reducible refine (q97.out _).mono ?_); rintro e w' ⟨rfl, rfl⟩) | (go_at_call 88; (with_reducible refine (q105.out _).mono ?_); rintro e w' ⟨rfl, rfl⟩) | (go_at_call 88; (with_reducible refine (q106.out _).mono ?_); rintro e w' ⟨rfl, rfl⟩))
          have R83 : Five (w3.setCell ⟨B, 1, none⟩ (.int .i64 ((x : Int) / 2097152 % 32))) w.heap.size 24 (.int .i64 0) (.int .i64 0) (.int .i64 0) (.int .i64 0) (.int .u32 0) := HRES.out.of_block (Below.heap_setCell _ _ _ _ (by simp; omega))
          have R84 : Five ((w3.setCell ⟨B, 1, none⟩ (.int .i64 ((x : Int) / 2097152 % 32))).setCell ⟨B, 2, none⟩ (.int .i64 ((x : Int) / 65536 % 32))) w.heap.size 24 (.int .i64 0) (.int .i64 0) (.int .i64 0) (.int .i64 0) (.int .u32 0) := R83.of_block (Below.heap_setCell _ _ _ _ (by simp; omega))
          have R105 : Five (((w3.setCell ⟨B, 1, none⟩ (.int .i64 ((x : Int) / 2097152 % 32))).setCell ⟨B, 2, none⟩ (.int .i64 ((x : Int) / 65536 % 32))).setCell ⟨B, 4, none⟩ (.int .u32 ((x : Int) % 65536))) w.heap.size 24 (.int .i64 0) (.int .i64 0) (.int .i64 0) (.int .i64 0) (.int .u32 0) := R84.of_block (Below.heap_setCell _ _ _ _ (by simp; omega))
          have HFin := Five.fill R105 (.int .i64 ((n : Int))) (.int .i64 ((x : Int) / 2097152 % 32)) (.int .i64 ((x : Int) / 65536 % 32)) (.int .i64 (0)) (.int .u32 ((x : Int) % 65536))
          have HBF := below_fill (((HBEL.out.setCell (p := ⟨B, 1, none⟩) (Nat.le_of_lt hlo) (.int .i64 ((x : Int) / 2097152 % 32))).setCell (p := ⟨B, 2, none⟩) (Nat.le_of_lt hlo) (.int .i64 ((x : Int) / 65536 % 32))).setCell (p := ⟨B, 4, none⟩) (Nat.le_of_lt hlo) (.int .u32 ((x : Int) % 65536))) (Nat.le_refl _) (.int .i64 ((n : Int))) (.int .i64 ((x : Int) / 2097152 % 32)) (.int .i64 ((x : Int) / 65536 % 32)) (.int .i64 (0)) (.int .u32 ((x : Int) % 65536))
          change bodyPost _ _ _ _ _ (fill5 (((w3.setCell ⟨B, 1, none⟩ (.int .i64 ((x : Int) / 2097152 % 32))).setCell ⟨B, 2, none⟩ (.int .i64 ((x : Int) / 65536 % 32))).setCell ⟨B, 4, none⟩ (.int .u32 ((x : Int) % 65536))) w.heap.size (.int .i64 ((n : Int))) (.int .i64 ((x : Int) / 2097152 % 32)) (.int .i64 ((x : Int) / 65536 % 32)) (.int .i64 (0)) (.int .u32 ((x : Int) % 65536)))
          have hv : decZ (x : Int) = ⟨(n : Int), (x : Int) / 2097152 % 32, (x : Int) / 65536 % 32, 0, (x : Int) % 65536⟩ := by
            rw [HZ.out]
            simp [decAt, putL, HE.out, putF]
          clear c0 c1 c2 c3 c4 g0 g1 g2 g3 g4 e0 e1 e2 e3 e4 f0 f1 f2 f3 f4 r3
          generalize fill5 (((w3.setCell ⟨B, 1, none⟩ (.int .i64 ((x : Int) / 2097152 % 32))).setCell ⟨B, 2, none⟩ (.int .i64 ((x : Int) / 65536 % 32))).setCell ⟨B, 4, none⟩ (.int .u32 ((x : Int) % 65536))) w.heap.size (.int .i64 ((n : Int))) (.int .i64 ((x : Int) / 2097152 % 32)) (.int .i64 ((x : Int) / 65536 % 32)) (.int .i64 (0)) (.int .u32 ((x : Int) % 65536)) = W5 at *
          obtain ⟨p0, p1, p2', p3, p4⟩ := HFin.cells
          exact bodyPost_ret (v := insV ⟨(n : Int), (x : Int) / 2097152 % 32, (x : Int) / 65536 % 32, 0, (x : Int) % 65536⟩) (by simp [results, Tryz.results55, go_sem, p0, p1, p2', p3, p4]) rfl ⟨by rw [hv], HBF⟩
        · have HE := Lib.hid e
          clear e
          have i83 := Lib.hid (isOf_of HE.out 83 83 (by decide) true (by decide)).out
          have i84 := Lib.hid (isOf_of HE.out 84 84 (by decide) false (by decide)).out
          have i68 := Lib.hid (isOf_of HE.out 68 68 (by decide) false (by decide)).out
          have i97 := Lib.hid (isOf_of HE.out 97 97 (by decide) false (by decide)).out
          have i105 := Lib.hid (isOf_of HE.out 105 105 (by decide) true (by decide)).out
          have i106 := Lib.hid (isOf_of HE.out 106 106 (by decide) false (by decide)).out
          go_wp2_with (first | (go_at_call 32; (with_reducible refine (i83.out _).mono ?_); rintro e w' ⟨rfl, rfl⟩) | (go_at_call 32; (with_reducible refine (i84.out _).mono ?_); rintro e w' ⟨rfl, rfl⟩) | (go_at_call 32; (with_reducible refine (i68.out _).mono ?_); rintro e w' ⟨rfl, rfl⟩) | (go_at_call 32; (with_reducible refine (i97.out _).mono ?_); rintro e w' ⟨rfl, rfl⟩) | (go_at_call 32; (with_reducible refine (i105.out _).mono ?_); rintro e w' ⟨rfl, rfl⟩) | (go_at_call 32; (with_reducible refine (i106.out _).mono ?_); rintro e w' ⟨rfl, rfl⟩) | (go_at_call 88; (with_reducible refine (q83.out _).mono ?_); rintro e w' ⟨rfl, rfl⟩) | (go_at_call 88; (with_reducible refine (q84.out _).mono ?_); rintro e w' ⟨rfl, rfl⟩) | (go_at_call 88; (with_reducible refine (q68.out _).mono ?_); rintro e w' ⟨rfl, rfl⟩) | (go_at_call 88; (with_reducible refine (q97.out _).mono ?_); rintro e w' ⟨rfl, rfl⟩) | (go_at_call 88; (with_reducible refine (q105.out _).mono ?_); rintro e w' ⟨rfl, rfl⟩) | (go_at_call 88; (with_reducible refine (q106.out _).mono ?_); rintro e w' ⟨rfl, rfl⟩))
          have R83 : Five (w3.setCell ⟨B, 1, none⟩ (.int .i64 ((x : Int) / 2097152 % 32))) w.heap.size 24 (.int .i64 0) (.int .i64 0) (.int .i64 0) (.int .i64 0) (.int .u32 0) := HRES.out.of_block (Below.heap_setCell _ _ _ _ (by simp; omega))
          have R105 : Five ((w3.setCell ⟨B, 1, none⟩ (.int .i64 ((x : Int) / 2097152 % 32))).setCell ⟨B, 4, none⟩ (.int .u32 ((x : Int) % 65536))) w.heap.size 24 (.int .i64 0) (.int .i64 0) (.int .i64 0) (.int .i64 0) (.int .u32 0) := R83.of_block (Below.heap_setCell _ _ _ _ (by simp; omega))
          have HFin := Five.fill R105 (.int .i64 ((n : Int))) (.int .i64 ((x : Int) / 2097152 % 32)) (.int .i64 (0)) (.int .i64 (0)) (.int .u32 ((x : Int) % 65536))
          have HBF := below_fill ((HBEL.out.setCell (p := ⟨B, 1, none⟩) (Nat.le_of_lt hlo) (.int .i64 ((x : Int) / 2097152 % 32))).setCell (p := ⟨B, 4, none⟩) (Nat.le_of_lt hlo) (.int .u32 ((x : Int) % 65536))) (Nat.le_refl _) (.int .i64 ((n : Int))) (.int .i64 ((x : Int) / 2097152 % 32)) (.int .i64 (0)) (.int .i64 (0)) (.int .u32 ((x : Int) % 65536))
          change bodyPost _ _ _ _ _ (fill5 ((w3.setCell ⟨B, 1, none⟩ (.int .i64 ((x : Int) / 2097152 % 32))).setCell ⟨B, 4, none⟩ (.int .u32 ((x : Int) % 65536))) w.heap.size (.int .i64 ((n : Int))) (.int .i64 ((x : Int) / 2097152 % 32)) (.int .i64 (0)) (.int .i64 (0)) (.int .u32 ((x : Int) % 65536)))
          have hv : decZ (x : Int) = ⟨(n : Int), (x : Int) / 2097152 % 32, 0, 0, (x : Int) % 65536⟩ := by
            rw [HZ.out]
            simp [decAt, putL, HE.out, putF]
          clear c0 c1 c2 c3 c4 g0 g1 g2 g3 g4 e0 e1 e2 e3 e4 f0 f1 f2 f3 f4 r3
          generalize fill5 ((w3.setCell ⟨B, 1, none⟩ (.int .i64 ((x : Int) / 2097152 % 32))).setCell ⟨B, 4, none⟩ (.int .u32 ((x : Int) % 65536))) w.heap.size (.int .i64 ((n : Int))) (.int .i64 ((x : Int) / 2097152 % 32)) (.int .i64 (0)) (.int .i64 (0)) (.int .u32 ((x : Int) % 65536)) = W5 at *
          obtain ⟨p0, p1, p2', p3, p4⟩ := HFin.cells
          exact bodyPost_ret (v := insV ⟨(n : Int), (x : Int) / 2097152 % 32, 0, 0, (x : Int) % 65536⟩) (by simp [results, Tryz.results55, go_sem, p0, p1, p2', p3, p4]) rfl ⟨by rw [hv], HBF⟩
        · have HE := Lib.hid e
          clear e
          have i83 := Lib.hid (isOf_of HE.out 83 83 (by decide) false (by decide)).out
          have i84 := Lib.hid (isOf_of HE.out 84 84 (by decide) true (by decide)).out
          have i68 := Lib.hid (isOf_of HE.out 68 68 (by decide) false (by decide)).out
          have i97 := Lib.hid (isOf_of HE.out 97 97 (by decide) false (by decide)).out
          have i105 := Lib.hid (isOf_of HE.out 105 105 (by decide) true (by decide)).out
          have i106 := Lib.hid (isOf_of HE.out 106 106 (by decide) false (by decide)).out
          go_wp2_with (first | (go_at_call 32; (with_reducible refine (i83.out _).mono ?_); rintro e w' ⟨rfl, rfl⟩) | (go_at_call 32; (with_reducible refine (i84.out _).mono ?_); rintro e w' ⟨rfl, rfl⟩) | (go_at_call 32; (with_reducible refine (i68.out _).mono ?_); rintro e w' ⟨rfl, rfl⟩) | (go_at_call 32; (with_reducible refine (i97.out _).mono ?_); rintro e w' ⟨rfl, rfl⟩) | (go_at_call 32; (with_reducible refine (i105.out _).mono ?_); rintro e w' ⟨rfl, rfl⟩) | (go_at_call 32; (with_reducible refine (i106.out _).mono ?_); rintro e w' ⟨rfl, rfl⟩) | (go_at_call 88; (with_reducible refine (q83.out _).mono ?_); rintro e w' ⟨rfl, rfl⟩) | (go_at_call 88; (with_reducible refine (q84.out _).mono ?_); rintro e w' ⟨rfl, rfl⟩) | (go_at_call 88; (with_reducible refine (q68.out _).mono ?_); rintro e w' ⟨rfl, rfl⟩) | (go_at_call 88; (with_reducible refine (q97.out _).mono ?_); rintro e w' ⟨rfl, rfl⟩) | (go_at_call 88; (with_reducible refine (q105.out _).mono ?_); rintro e w' ⟨rfl, rfl⟩) | (go_at_call 88; (with_reducible refine (q106.out _).mono ?_); rintro e w' ⟨rfl, rfl⟩))
          have R84 : Five (w3.setCell ⟨B, 2, none⟩ (.int .i64 ((x : Int) / 65536 % 32))) w.heap.size 24 (.int .i64 0) (.int .i64 0) (.int .i64 0) (.int .i64 0) (.int .u32 0) := HRES.out.of_block (Below.heap_setCell _ _ _ _ (by simp; omega))
          have R105 : Five ((w3.setCell ⟨B, 2, none⟩ (.int .i64 ((x : Int) / 65536 % 32))).setCell ⟨B, 4, none⟩ (.int .u32 ((x : Int) % 65536))) w.heap.size 24 (.int .i64 0) (.int .i64 0) (.int .i64 0) (.int .i64 0) (.int .u32 0) := R84.of_block (Below.heap_setCell _ _ _ _ (by simp; omega))
          have HFin := Five.fill R105 (.int .i64 ((n : Int))) (.int .i64 (0)) (.int .i64 ((x : Int) / 65536 % 32)) (.int .i64 (0)) (.int .u32 ((x : Int) % 65536))
          have HBF := below_fill ((HBEL.out.setCell (p := ⟨B, 2, none⟩) (Nat.le_of_lt hlo) (.int .i64 ((x : Int) / 65536 % 32))).setCell (p := ⟨B, 4, none⟩) (Nat.le_of_lt hlo) (.int .u32 ((x : Int) % 65536))) (Nat.le_refl _) (.int .i64 ((n : Int))) (.int .i64 (0)) (.int .i64 ((x : Int) / 65536 % 32)) (.int .i64 (0)) (.int .u32 ((x : Int) % 65536))
          change bodyPost _ _ _ _ _ (fill5 ((w3.setCell ⟨B, 2, none⟩ (.int .i64 ((x : Int) / 65536 % 32))).setCell ⟨B, 4, none⟩ (.int .u32 ((x : Int) % 65536))) w.heap.size (.int .i64 ((n : Int))) (.int .i64 (0)) (.int .i64 ((x : Int) / 65536 % 32)) (.int .i64 (0)) (.int .u32 ((x : Int) % 65536)))
          have hv : decZ (x : Int) = ⟨(n : Int), 0, (x : Int) / 65536 % 32, 0, (x : Int) % 65536⟩ := by
            rw [HZ.out]
            simp [decAt, putL, HE.out, putF]
          clear c0 c1 c2 c3 c4 g0 g1 g2 g3 g4 e0 e1 e2 e3 e4 f0 f1 f2 f3 f4 r3
          generalize fill5 ((w3.setCell ⟨B, 2, none⟩ (.int .i64 ((x : Int) / 65536 % 32))).setCell ⟨B, 4, none⟩ (.int .u32 ((x : Int) % 65536))) w.heap.size (.int .i64 ((n : Int))) (.int .i64 (0)) (.int .i64 ((x : Int) / 65536 % 32)) (.int .i64 (0)) (.int .u32 ((x : Int) % 65536)) = W5 at *
          obtain ⟨p0, p1, p2', p3, p4⟩ := HFin.cells
          exact bodyPost_ret (v := insV ⟨(n : Int), 0, (x : Int) / 65536 % 32, 0, (x : Int) % 65536⟩) (by simp [results, Tryz.results55, go_sem, p0, p1, p2', p3, p4]) rfl ⟨by rw [hv], HBF⟩
        · have HE := Lib.hid e
          clear e
          have i83 := Lib.hid (isOf_of HE.out 83 83 (by decide) false (by decide)).out
          have i84 := Lib.hid (isOf_of HE.out 84 84 (by decide) true (by decide)).out
          have i68 := Lib.hid (isOf_of HE.out 68 68 (by decide) true (by decide)).out
          have i97 := Lib.hid (isOf_of HE.out 97 97 (by decide) false (by decide)).out
          have i105 := Lib.hid (isOf_of HE.out 105 105 (by decide) false (by decide)).out
          have i106 := Lib.hid (isOf_of HE.out 106 106 (by decide) false (by decide)).out
          go_wp2_with (first | (go_at_call 32; (with_reducible refine (i83.out _).mono ?_); rintro e w' ⟨rfl, rfl⟩) | (go_at_call 32; (with_reducible refine (i84.out _).mono ?_); rintro e w' ⟨rfl, rfl⟩) | (go_at_call 32; (with_reducible refine (i68.out _).mono ?_); rintro e w' ⟨rfl, rfl⟩) | (go_at_call 32; (with_reducible refine (i97.out _).mono ?_); rintro e w' ⟨rfl, rfl⟩) | (go_at_call 32; (with_reducible refine (i105.out _).mono ?_); rintro e w' ⟨rfl, rfl⟩) | (go_at_call 32; (with_reducible refine (i106.out _).mono ?_); rintro e w' ⟨rfl, rfl⟩) | (go_at_call 88; (with_reducible refine (q83.out _).mono ?_); rintro e w' ⟨rfl, rfl⟩) | (go_at_call 88; (with_reducible refine (q84.out _).mono ?_); rintro e w' ⟨rfl, rfl⟩) | (go_at_call 88; (with_reducible refine (q68.out _).mono ?_); rintro e w' ⟨rfl, rfl⟩) | (go_at_call 88; (with_reducible refine (q97.out _).mono ?_); rintro e w' ⟨rfl, rfl⟩) | (go_at_call 88; (with_reducible refine (q105.out _).mono ?_); rintro e w' ⟨rfl, rfl⟩) | (go_at_call 88; (with_reducible refine (q106.out _).mono ?_); rintro e w' ⟨rfl, rfl⟩))
          have R84 : Five (w3.setCell ⟨B, 2, none⟩ (.int .i64 ((x : Int) / 65536 % 32))) w.heap.size 24 (.int .i64 0) (.int .i64 0) (.int .i64 0) (.int .i64 0) (.int .u32 0) := HRES.out.of_block (Below.heap_setCell _ _ _ _ (by simp; omega))
          have R68 : Five ((w3.setCell ⟨B, 2, none⟩ (.int .i64 ((x : Int) / 65536 % 32))).setCell ⟨B, 3, none⟩ (.int .i64 ((x : Int) / 2048 % 32))) w.heap.size 24 (.int .i64 0) (.int .i64 0) (.int .i64 0) (.int .i64 0) (.int .u32 0) := R84.of_block (Below.heap_setCell _ _ _ _ (by simp; omega))
          have HFin := Five.fill R68 (.int .i64 ((n : Int))) (.int .i64 (0)) (.int .i64 ((x : Int) / 65536 % 32)) (.int .i64 ((x : Int) / 2048 % 32)) (.int .u32 (0))
          have HBF := below_fill ((HBEL.out.setCell (p := ⟨B, 2, none⟩) (Nat.le_of_lt hlo) (.int .i64 ((x : Int) / 65536 % 32))).setCell (p := ⟨B, 3, none⟩) (Nat.le_of_lt hlo) (.int .i64 ((x : Int) / 2048 % 32))) (Nat.le_refl _) (.int .i64 ((n : Int))) (.int .i64 (0)) (.int .i64 ((x : Int) / 65536 % 32)) (.int .i64 ((x : Int) / 2048 % 32)) (.int .u32 (0))
          change bodyPost _ _ _ _ _ (fill5 ((w3.setCell ⟨B, 2, none⟩ (.int .i64 ((x : Int) / 65536 % 32))).setCell ⟨B, 3, none⟩ (.int .i64 ((x : Int) / 2048 % 32))) w.heap.size (.int .i64 ((n : Int))) (.int .i64 (0)) (.int .i64 ((x : Int) / 65536 % 32)) (.int .i64 ((x : Int) / 2048 % 32)) (.int .u32 (0)))
          have hv : decZ (x : Int) = ⟨(n : Int), 0, (x : Int) / 65536 % 32, (x : Int) / 2048 % 32, 0⟩ := by
            rw [HZ.out]
            simp [decAt, putL, HE.out, putF]
          clear c0 c1 c2 c3 c4 g0 g1 g2 g3 g4 e0 e1 e2 e3 e4 f0 f1 f2 f3 f4 r3
          generalize fill5 ((w3.setCell ⟨B, 2, none⟩ (.int .i64 ((x : Int) / 65536 % 32))).setCell ⟨B, 3, none⟩ (.int .i64 ((x : Int) / 2048 % 32))) w.heap.size (.int .i64 ((n : Int))) (.int .i64 (0)) (.int .i64 ((x : Int) / 65536 % 32)) (.int .i64 ((x : Int) / 2048 % 32)) (.int .u32 (0)) = W5 at *
          obtain ⟨p0, p1, p2', p3, p4⟩ := HFin.cells
          exact bodyPost_ret (v := insV ⟨(n : Int), 0, (x : Int) / 65536 % 32, (x : Int) / 2048 % 32, 0⟩) (by simp [results, Tryz.results55, go_sem, p0, p1, p2', p3, p4]) rfl ⟨by rw [hv], HBF⟩
    · have hz : decZ (x : Int) = ⟨0, 0, 0, 0, 0⟩ := by
        rw [decFrom_step (x : Int) n hn1 HM.out hn2, show 54 - n = 0 from by omega]
        rfl
      obtain ⟨e0, e1, e2, e3, e4⟩ := HD.res.cells
      obtain ⟨f0, f1, f2, f3, f4⟩ := HD.res.free
      go_wp2
      have HFin := HD.res.fill (.int .i64 0) (.int .i64 0) (.int .i64 0) (.int .i64 0) (.int .u32 0)
      have HBF := below_fill HD.below (Nat.le_refl _) (.int .i64 0) (.int .i64 0) (.int .i64 0) (.int .i64 0) (.int .u32 0)
      change bodyPost _ _ _ _ _ (fill5 wr w.heap.size (.int .i64 0) (.int .i64 0) (.int .i64 0) (.int .i64 0) (.int .u32 0))
      clear e0 e1 e2 e3 e4 f0 f1 f2 f3 f4
      generalize fill5 wr w.heap.size (.int .i64 0) (.int .i64 0) (.int .i64 0) (.int .i64 0) (.int .u32 0) = W5 at *
      obtain ⟨q0, q1, q2, q3, q4⟩ := HFin.cells
      refine bodyPost_ret (v := insV ⟨0, 0, 0, 0, 0⟩) (by simp [results, Tryz.results55, go_sem, q0, q1, q2, q3, q4]) rfl ⟨by rw [hz], HBF⟩
end Go.Proofs.YtnppegldebocmaaGreatDoor
