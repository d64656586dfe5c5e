/- The walk of code.Decode: the first operation that a word is of, with its fields; else none. Conditions: the word is one of 32 bits. -/
import Derived.Test.YtnppegldebocmaaGreatDoorLay
import Derived.Test.YtnppegldebocmaaGreatDoorOf
import Derived.Handy
import Derived.StillTailTactics
import Derived.Deep.RegionHeld3
import Derived.Deep.QuietTactic
import Derived.BigQuiet
namespace Go.Proofs.YtnppegldebocmaaGreatDoor
open Go.RowKit
theorem and_31 (y : Int) (h0 : 0 ≤ y) (h1 : y < 4294967296) : bits .and .u32 y (32 - 1) = y % 32 := by
  rw [u32_and y (32 - 1) h0 h1 (by decide) (by decide), show ((32 : Int) - 1).toNat = 31 from rfl, nat_mask5]
  omega
theorem and_65535 (y : Int) (h0 : 0 ≤ y) (h1 : y < 4294967296) : bits .and .u32 y (65536 - 1) = y % 65536 := by
  rw [u32_and y (65536 - 1) h0 h1 (by decide) (by decide), show ((65536 : Int) - 1).toNat = 65535 from rfl, nat_mask16]
  omega
theorem and_26 (y : Int) (h0 : 0 ≤ y) (h1 : y < 4294967296) : bits .and .u32 y (67108864 - 1) = y % 67108864 := by
  rw [u32_and y (67108864 - 1) h0 h1 (by decide) (by decide), show ((67108864 : Int) - 1).toNat = 67108863 from rfl, nat_mask26]
  omega
/-- What Decode answers: the first operation that the word is of. -/
def decFrom (x : Int) : Nat → Nat → InsN
  | 0, _ => ⟨0, 0, 0, 0, 0⟩
  | f + 1, n => if hitB x (n : Int) then decAt x (n : Int) else decFrom x f (n + 1)
theorem hit_of (x : Int) (n : Nat) (h1 : (x / 67108864 == majorZ (n : Int)) = true) (h2 : (bits .andNot .u32 x (maskZ (n : Int)) == fixedZ (n : Int)) = true) : hitB x (n : Int) = true := by
  unfold hitB
  rw [h1, h2]
  rfl
theorem miss_maj (x : Int) (n : Nat) (h : ¬ (x / 67108864 == majorZ (n : Int)) = true) : hitB x (n : Int) = false := by
  unfold hitB
  rw [Bool.eq_false_iff.2 h]
  rfl
theorem miss_fix (x : Int) (n : Nat) (h : ¬ (bits .andNot .u32 x (maskZ (n : Int)) == fixedZ (n : Int)) = true) : hitB x (n : Int) = false := by
  unfold hitB
  rw [Bool.eq_false_iff.2 h]
  simp
theorem miss_next {x : Int} {n : Nat} (h : ∀ k : Nat, 1 ≤ k → k < n → hitB x (k : Int) = false) (h2 : hitB x (n : Int) = false) : Hid (∀ k : Nat, 1 ≤ k → k < n + 1 → hitB x (k : Int) = false) := by
  intro k a b
  by_cases e : k = n
  · rw [e]; exact h2
  · exact h k a (by omega)
def decZ (x : Int) : InsN := decFrom x 53 1
theorem decFrom_step (x : Int) (n : Nat) (h1 : 1 ≤ n) (h : ∀ k : Nat, 1 ≤ k → k < n → hitB x (k : Int) = false) (h2 : n ≤ 54) : decZ x = decFrom x (54 - n) n := by
  induction n with
  | zero => omega
  | succ m ih =>
    by_cases hm : m = 0
    · subst hm; rfl
    · rw [ih (by omega) (fun k a b => h k a (by omega)) (by omega)]
      have e : 54 - m = (54 - (m + 1)) + 1 := by omega
      rw [e, decFrom, h m (by omega) (by omega)]
      simp
set_option maxHeartbeats 2000000 in
theorem decode_any (x : Int) (h0 : 0 ≤ x) (h1 : x < 4294967296) (w : World) :
    Calls Tryz.prog 14 #[.int .u32 x] w fun e w' => e = .returned (insV (decZ x)) ∧ Below w.heap.size w w' := by
  go_enter Tryz.func14, Tryz.ntmps14
  go_wp2_with fail
  go_loopw [3] (fun v wr => ∃ n : Nat, 1 ≤ n ∧ n ≤ 54 ∧ v = .int .i64 (n : Int) ∧ Hid (∀ k : Nat, 1 ≤ k → k < n → hitB x (k : Int) = false) ∧ Below w.heap.size w wr ∧ Five wr w.heap.size 24 (.int .i64 0) (.int .i64 0) (.int .i64 0) (.int .i64 0) (.int .u32 0)) (fun v _ => 54 - (intOf v).toNat)
  case atStart =>
    exact ⟨1, by omega, by omega, rfl, by unfold Hid; omega, by go_grown, Five.new w _ _ _ _ _ _⟩
  case round =>
    obtain ⟨n, hn1, hn2, rfl, HM, hb, hbl⟩ := hrel
    by_cases hlt : n < 54
    · go_wp2_with (go_at_call 42; refine (of_any _ _).mono ?_; rintro e w1 ⟨rfl, hb1⟩)
      obtain ⟨c0, c1, c2, c3, c4, hz⟩ := five_new w1 (.string (nameS (n : Int))) (.int .u32 (majorZ (n : Int))) (.int .u32 (minorZ (n : Int))) (.string (fieldsS (n : Int))) (.string (kindS (n : Int))) 81
      have hB2 : Below w.heap.size w (w1.alloc (.cells #[.string (nameS (n : Int)), .int .u32 (majorZ (n : Int)), .int .u32 (minorZ (n : Int)), .string (fieldsS (n : Int)), .string (kindS (n : Int))] 81)) :=
        (hb.trans (hb1.mono hb.size)).alloc (by have := hb.size; have := hb1.size; omega) _
      have hz0 : w.heap.size < w1.heap.size := by have := hbl.lt; have := hb1.size; omega
      have hbl2 : Five (w1.alloc (.cells #[.string (nameS (n : Int)), .int .u32 (majorZ (n : Int)), .int .u32 (minorZ (n : Int)), .string (fieldsS (n : Int)), .string (kindS (n : Int))] 81)) w.heap.size 24 (.int .i64 0) (.int .i64 0) (.int .i64 0) (.int .i64 0) (.int .u32 0) :=
        (hbl.below hb1 hbl.lt).below ((Below.refl _ _).alloc (Nat.le_refl _) _) (by omega)
      generalize w1.alloc (.cells #[.string (nameS (n : Int)), .int .u32 (majorZ (n : Int)), .int .u32 (minorZ (n : Int)), .string (fieldsS (n : Int)), .string (kindS (n : Int))] 81) = w2 at *
      by_cases hmaj : (x / 67108864 == majorZ (n : Int)) = true
      · have hmaj' : (x / 67108864 != majorZ (n : Int)) = false := by simpa using hmaj
        go_region_held3 (fun w' => (w'.cell? ⟨w1.heap.size, 0, none⟩ = some (.string (nameS (n : Int))) ∧ w'.cell? ⟨w1.heap.size, 1, none⟩ = some (.int .u32 (majorZ (n : Int))) ∧ w'.cell? ⟨w1.heap.size, 2, none⟩ = some (.int .u32 (minorZ (n : Int))) ∧ w'.cell? ⟨w1.heap.size, 3, none⟩ = some (.string (fieldsS (n : Int))) ∧ w'.cell? ⟨w1.heap.size, 4, none⟩ = some (.string (kindS (n : Int))) ∧ w1.heap.size < w'.heap.size ∧ Below w2.heap.size w2 w'))
          ((go_split_ands; refine ⟨?_, ?_, ?_, ?_, ?_, ?_, ?_⟩ <;> (first | assumption | (rw [hb3.cell (by assumption)]; assumption) | (have := hb3.size; omega) | exact (Below.refl _ _).drew | exact Below.trans (by assumption) (hb3.mono (Below.size (by assumption))) | (simp [go_sem, *]; done))))
          (first | (go_at_call 43; refine (mask_shape _ _).mono ?_; rintro e w' ⟨rfl, hb3⟩) | (go_at_call 44; refine (fixed_any _ _).mono ?_; rintro e w' ⟨rfl, hb3⟩))
        go_split_ands
        have hb5 : Below w2.heap.size w2 w' := by assumption
        have hz5 : w1.heap.size < w'.heap.size := by assumption
        clear hb3
        by_cases hfix : (bits .andNot .u32 x (maskZ (n : Int)) == fixedZ (n : Int)) = true
        · have hfix' : (bits .andNot .u32 x (maskZ (n : Int)) != fixedZ (n : Int)) = false := by simpa using hfix
          go_wp2_with fail
          have HB2 : Below w.heap.size w ((w'.alloc (.cells #[.int .i64 (n : Int), .int .i64 0, .int .i64 0, .int .i64 0, .int .u32 0] 24)).iter (fieldsS (n : Int)) 0) := below_iter (((hB2.trans (hb5.mono hB2.size))).alloc (by omega) _) (by simp; omega) _ _
          have HF : Five ((w'.alloc (.cells #[.int .i64 (n : Int), .int .i64 0, .int .i64 0, .int .i64 0, .int .u32 0] 24)).iter (fieldsS (n : Int)) 0) w'.heap.size 24 (.int .i64 (n : Int)) (.int .i64 0) (.int .i64 0) (.int .i64 0) (.int .u32 0) := (Five.new w' _ _ _ _ _ _).below ((Below.refl _ _).alloc (Nat.le_refl _) _) (by simp)
          have HI' : Hid (((w'.alloc (.cells #[.int .i64 (n : Int), .int .i64 0, .int .i64 0, .int .i64 0, .int .u32 0] 24)).iter (fieldsS (n : Int)) 0).heap[w'.heap.size + 1]? = some (.stringIter (fieldsS (n : Int)) 0)) := iter_new _ _ _ _ (by simp)
          have Hs : w.heap.size < w'.heap.size := by omega
          have HR : Five ((w'.alloc (.cells #[.int .i64 (n : Int), .int .i64 0, .int .i64 0, .int .i64 0, .int .u32 0] 24)).iter (fieldsS (n : Int)) 0) w.heap.size 24 (.int .i64 0) (.int .i64 0) (.int .i64 0) (.int .i64 0) (.int .u32 0) := (((hbl2.below hb5 hbl2.lt).below ((Below.refl _ _).alloc (Nat.le_refl _) _) (by omega))).below ((Below.refl _ _).alloc (Nat.le_refl _) _) (by simp; omega)
          generalize (w'.alloc (.cells #[.int .i64 (n : Int), .int .i64 0, .int .i64 0, .int .i64 0, .int .u32 0] 24)).iter (fieldsS (n : Int)) 0 = w3 at *
          generalize w'.heap.size = B at *
          simp only [hfix']
          go_loopw [7] (fun _ wr => ∃ j : Nat, ∃ i : InsN, j ≤ (fieldsB n).length ∧ i = putL x n ((fieldsB n).take j) ∧ i.op = n ∧ Hid (wr.heap[B + 1]? = some (.stringIter (fieldsS (n : Int)) j)) ∧ Five wr B 24 (.int .i64 i.op) (.int .i64 i.s) (.int .i64 i.t) (.int .i64 i.d) (.int .u32 i.imm) ∧ Below w.heap.size w wr ∧ Five wr w.heap.size 24 (.int .i64 0) (.int .i64 0) (.int .i64 0) (.int .i64 0) (.int .u32 0)) (fun _ wr => (fieldsB n).length - wr.iterPos (B + 1))
          case atStart => exact ⟨0, ⟨n, 0, 0, 0, 0⟩, Nat.zero_le _, rfl, rfl, HI', HF, HB2, HR⟩
          case round =>
            obtain ⟨j, i, hj, hi, hop, hit, hfv, hbb, hres⟩ := hrel
            have HI := Lib.hid hi
            have HOP := Lib.hid hop
            clear hi hop
            by_cases hlt2 : j < (fieldsB n).length
            · have hc : (fieldsB n)[j]? = some (fieldsB n)[j] := List.getElem?_eq_getElem hlt2
              have hlet : letter (fieldsB n)[j] := fieldsB_letter n _ (List.getElem_mem hlt2)
              generalize (fieldsB n)[j] = y at hc hlet
              have HS := Lib.hid (take_succ_of (fieldsB n) j y hc)
              rcases hlet with rfl | rfl | rfl | rfl | rfl | rfl
              · have hnx : ∀ ty, (Instr.next (.pointer (some ⟨B + 1, 0, none⟩)) true ty).run Tryz.prog wr = _ := fun ty => next_lit_at (P := Tryz.prog) wr (B + 1) (fieldsB n) j ty 83 83 hit.out hc (by decide) (by decide)
                clear hc
                have hf2 : Five (wr.iterAt (B + 1) (bsl (fieldsB n)) (j + 1)).drew B 24 (.int .i64 i.op) (.int .i64 i.s) (.int .i64 i.t) (.int .i64 i.d) (.int .u32 i.imm) := hfv.iterAt (by omega) _ _
                have hit2 : Hid ((wr.iterAt (B + 1) (bsl (fieldsB n)) (j + 1)).drew.heap[B + 1]? = some (.stringIter (fieldsS (n : Int)) (j + 1))) := Lib.iterAt_heap wr (B + 1) _ j _ hit.out
                have hbb2 : Below w.heap.size w (wr.iterAt (B + 1) (bsl (fieldsB n)) (j + 1)).drew := (Lib.below_iterAt hbb (by omega) _ _).drew
                have hres2 : Five (wr.iterAt (B + 1) (bsl (fieldsB n)) (j + 1)).drew w.heap.size 24 (.int .i64 0) (.int .i64 0) (.int .i64 0) (.int .i64 0) (.int .u32 0) := hres.iterAt (by omega) _ _
                go_wp2_with (go_at_call 45; refine (place_83 _).mono ?_; rintro e w' ⟨rfl, rfl⟩)
                go_still_tail 8, (by kernel_rfl)
                change wpList _ _ _ _ _ (wr.iterAt (B + 1) (bsl (fieldsB n)) (j + 1)).drew
                generalize (wr.iterAt (B + 1) (bsl (fieldsB n)) (j + 1)).drew = w4 at *
                go_wp2_with (fail)
                have hv : bits .and .u32 (x / 2097152) (32 - 1) = x / 2097152 % 32 := and_31 (x / 2097152) (by omega) (by omega)
                refine (lay_83 B _ (by rw [hv]; omega) (by rw [hv]; omega) _ _ _ _ _ _ hf2).mono ?_
                rintro e w' ⟨rfl, rfl⟩
                rw [hv]
                clear hv
                go_wp2
                go_roundw
                case rel => exact ⟨j + 1, putF x i 83, by omega, by rw [HS.out, putL_snoc, HI.out], HOP.out, iter_setCell hit2.out _ (by simp) _, hf2.set1 _, hbb2.setCell (by simp; omega) _, hres2.of_block (Below.heap_setCell _ _ _ _ (by simp; omega))⟩
                case measure => rw [iterPos_of (iter_setCell hit2.out _ (by simp) _), iterPos_of hit.out]; omega
              · have hnx : ∀ ty, (Instr.next (.pointer (some ⟨B + 1, 0, none⟩)) true ty).run Tryz.prog wr = _ := fun ty => next_lit_at (P := Tryz.prog) wr (B + 1) (fieldsB n) j ty 84 84 hit.out hc (by decide) (by decide)
                clear hc
                have hf2 : Five (wr.iterAt (B + 1) (bsl (fieldsB n)) (j + 1)).drew B 24 (.int .i64 i.op) (.int .i64 i.s) (.int .i64 i.t) (.int .i64 i.d) (.int .u32 i.imm) := hfv.iterAt (by omega) _ _
                have hit2 : Hid ((wr.iterAt (B + 1) (bsl (fieldsB n)) (j + 1)).drew.heap[B + 1]? = some (.stringIter (fieldsS (n : Int)) (j + 1))) := Lib.iterAt_heap wr (B + 1) _ j _ hit.out
                have hbb2 : Below w.heap.size w (wr.iterAt (B + 1) (bsl (fieldsB n)) (j + 1)).drew := (Lib.below_iterAt hbb (by omega) _ _).drew
                have hres2 : Five (wr.iterAt (B + 1) (bsl (fieldsB n)) (j + 1)).drew w.heap.size 24 (.int .i64 0) (.int .i64 0) (.int .i64 0) (.int .i64 0) (.int .u32 0) := hres.iterAt (by omega) _ _
                go_wp2_with (go_at_call 45; refine (place_84 _).mono ?_; rintro e w' ⟨rfl, rfl⟩)
                go_still_tail 8, (by kernel_rfl)
                change wpList _ _ _ _ _ (wr.iterAt (B + 1) (bsl (fieldsB n)) (j + 1)).drew
                generalize (wr.iterAt (B + 1) (bsl (fieldsB n)) (j + 1)).drew = w4 at *
                go_wp2_with (fail)
                have hv : bits .and .u32 (x / 65536) (32 - 1) = x / 65536 % 32 := and_31 (x / 65536) (by omega) (by omega)
                refine (lay_84 B _ (by rw [hv]; omega) (by rw [hv]; omega) _ _ _ _ _ _ hf2).mono ?_
                rintro e w' ⟨rfl, rfl⟩
                rw [hv]
                clear hv
                go_wp2
                go_roundw
                case rel => exact ⟨j + 1, putF x i 84, by omega, by rw [HS.out, putL_snoc, HI.out], HOP.out, iter_setCell hit2.out _ (by simp) _, hf2.set2 _, hbb2.setCell (by simp; omega) _, hres2.of_block (Below.heap_setCell _ _ _ _ (by simp; omega))⟩
                case measure => rw [iterPos_of (iter_setCell hit2.out _ (by simp) _), iterPos_of hit.out]; omega
              · have hnx : ∀ ty, (Instr.next (.pointer (some ⟨B + 1, 0, none⟩)) true ty).run Tryz.prog wr = _ := fun ty => next_lit_at (P := Tryz.prog) wr (B + 1) (fieldsB n) j ty 68 68 hit.out hc (by decide) (by decide)
                clear hc
                have hf2 : Five (wr.iterAt (B + 1) (bsl (fieldsB n)) (j + 1)).drew B 24 (.int .i64 i.op) (.int .i64 i.s) (.int .i64 i.t) (.int .i64 i.d) (.int .u32 i.imm) := hfv.iterAt (by omega) _ _
                have hit2 : Hid ((wr.iterAt (B + 1) (bsl (fieldsB n)) (j + 1)).drew.heap[B + 1]? = some (.stringIter (fieldsS (n : Int)) (j + 1))) := Lib.iterAt_heap wr (B + 1) _ j _ hit.out
                have hbb2 : Below w.heap.size w (wr.iterAt (B + 1) (bsl (fieldsB n)) (j + 1)).drew := (Lib.below_iterAt hbb (by omega) _ _).drew
                have hres2 : Five (wr.iterAt (B + 1) (bsl (fieldsB n)) (j + 1)).drew w.heap.size 24 (.int .i64 0) (.int .i64 0) (.int .i64 0) (.int .i64 0) (.int .u32 0) := hres.iterAt (by omega) _ _
                go_wp2_with (go_at_call 45; refine (place_68 _).mono ?_; rintro e w' ⟨rfl, rfl⟩)
                go_still_tail 8, (by kernel_rfl)
                change wpList _ _ _ _ _ (wr.iterAt (B + 1) (bsl (fieldsB n)) (j + 1)).drew
                generalize (wr.iterAt (B + 1) (bsl (fieldsB n)) (j + 1)).drew = w4 at *
                go_wp2_with (fail)
                have hv : bits .and .u32 (x / 2048) (32 - 1) = x / 2048 % 32 := and_31 (x / 2048) (by omega) (by omega)
                refine (lay_68 B _ (by rw [hv]; omega) (by rw [hv]; omega) _ _ _ _ _ _ hf2).mono ?_
                rintro e w' ⟨rfl, rfl⟩
                rw [hv]
                clear hv
                go_wp2
                go_roundw
                case rel => exact ⟨j + 1, putF x i 68, by omega, by rw [HS.out, putL_snoc, HI.out], HOP.out, iter_setCell hit2.out _ (by simp) _, hf2.set3 _, hbb2.setCell (by simp; omega) _, hres2.of_block (Below.heap_setCell _ _ _ _ (by simp; omega))⟩
                case measure => rw [iterPos_of (iter_setCell hit2.out _ (by simp) _), iterPos_of hit.out]; omega
              · have hnx : ∀ ty, (Instr.next (.pointer (some ⟨B + 1, 0, none⟩)) true ty).run Tryz.prog wr = _ := fun ty => next_lit_at (P := Tryz.prog) wr (B + 1) (fieldsB n) j ty 97 97 hit.out hc (by decide) (by decide)
                clear hc
                have hf2 : Five (wr.iterAt (B + 1) (bsl (fieldsB n)) (j + 1)).drew B 24 (.int .i64 i.op) (.int .i64 i.s) (.int .i64 i.t) (.int .i64 i.d) (.int .u32 i.imm) := hfv.iterAt (by omega) _ _
                have hit2 : Hid ((wr.iterAt (B + 1) (bsl (fieldsB n)) (j + 1)).drew.heap[B + 1]? = some (.stringIter (fieldsS (n : Int)) (j + 1))) := Lib.iterAt_heap wr (B + 1) _ j _ hit.out
                have hbb2 : Below w.heap.size w (wr.iterAt (B + 1) (bsl (fieldsB n)) (j + 1)).drew := (Lib.below_iterAt hbb (by omega) _ _).drew
                have hres2 : Five (wr.iterAt (B + 1) (bsl (fieldsB n)) (j + 1)).drew w.heap.size 24 (.int .i64 0) (.int .i64 0) (.int .i64 0) (.int .i64 0) (.int .u32 0) := hres.iterAt (by omega) _ _
                go_wp2_with (go_at_call 45; refine (place_97 _).mono ?_; rintro e w' ⟨rfl, rfl⟩)
                go_still_tail 8, (by kernel_rfl)
                change wpList _ _ _ _ _ (wr.iterAt (B + 1) (bsl (fieldsB n)) (j + 1)).drew
                generalize (wr.iterAt (B + 1) (bsl (fieldsB n)) (j + 1)).drew = w4 at *
                go_wp2_with (fail)
                have hv : bits .and .u32 (x / 64) (32 - 1) = x / 64 % 32 := and_31 (x / 64) (by omega) (by omega)
                refine (lay_imm B _ _ (by omega) _ _ _ _ _ _ hf2).mono ?_
                rintro e w' ⟨rfl, rfl⟩
                rw [hv]
                clear hv
                go_wp2
                go_roundw
                case rel => exact ⟨j + 1, putF x i 97, by omega, by rw [HS.out, putL_snoc, HI.out], HOP.out, iter_setCell hit2.out _ (by simp) _, hf2.set4 _, hbb2.setCell (by simp; omega) _, hres2.of_block (Below.heap_setCell _ _ _ _ (by simp; omega))⟩
                case measure => rw [iterPos_of (iter_setCell hit2.out _ (by simp) _), iterPos_of hit.out]; omega
              · have hnx : ∀ ty, (Instr.next (.pointer (some ⟨B + 1, 0, none⟩)) true ty).run Tryz.prog wr = _ := fun ty => next_lit_at (P := Tryz.prog) wr (B + 1) (fieldsB n) j ty 105 105 hit.out hc (by decide) (by decide)
                clear hc
                have hf2 : Five (wr.iterAt (B + 1) (bsl (fieldsB n)) (j + 1)).drew B 24 (.int .i64 i.op) (.int .i64 i.s) (.int .i64 i.t) (.int .i64 i.d) (.int .u32 i.imm) := hfv.iterAt (by omega) _ _
                have hit2 : Hid ((wr.iterAt (B + 1) (bsl (fieldsB n)) (j + 1)).drew.heap[B + 1]? = some (.stringIter (fieldsS (n : Int)) (j + 1))) := Lib.iterAt_heap wr (B + 1) _ j _ hit.out
                have hbb2 : Below w.heap.size w (wr.iterAt (B + 1) (bsl (fieldsB n)) (j + 1)).drew := (Lib.below_iterAt hbb (by omega) _ _).drew
                have hres2 : Five (wr.iterAt (B + 1) (bsl (fieldsB n)) (j + 1)).drew w.heap.size 24 (.int .i64 0) (.int .i64 0) (.int .i64 0) (.int .i64 0) (.int .u32 0) := hres.iterAt (by omega) _ _
                go_wp2_with (go_at_call 45; refine (place_105 _).mono ?_; rintro e w' ⟨rfl, rfl⟩)
                go_still_tail 8, (by kernel_rfl)
                change wpList _ _ _ _ _ (wr.iterAt (B + 1) (bsl (fieldsB n)) (j + 1)).drew
                generalize (wr.iterAt (B + 1) (bsl (fieldsB n)) (j + 1)).drew = w4 at *
                go_wp2_with (fail)
                have hv : bits .and .u32 x (65536 - 1) = x % 65536 := and_65535 x (by omega) (by omega)
                refine (lay_imm B _ _ (by omega) _ _ _ _ _ _ hf2).mono ?_
                rintro e w' ⟨rfl, rfl⟩
                rw [hv]
                clear hv
                go_wp2
                go_roundw
                case rel => exact ⟨j + 1, putF x i 105, by omega, by rw [HS.out, putL_snoc, HI.out], HOP.out, iter_setCell hit2.out _ (by simp) _, hf2.set4 _, hbb2.setCell (by simp; omega) _, hres2.of_block (Below.heap_setCell _ _ _ _ (by simp; omega))⟩
                case measure => rw [iterPos_of (iter_setCell hit2.out _ (by simp) _), iterPos_of hit.out]; omega
              · have hnx : ∀ ty, (Instr.next (.pointer (some ⟨B + 1, 0, none⟩)) true ty).run Tryz.prog wr = _ := fun ty => next_lit_at (P := Tryz.prog) wr (B + 1) (fieldsB n) j ty 106 106 hit.out hc (by decide) (by decide)
                clear hc
                have hf2 : Five (wr.iterAt (B + 1) (bsl (fieldsB n)) (j + 1)).drew B 24 (.int .i64 i.op) (.int .i64 i.s) (.int .i64 i.t) (.int .i64 i.d) (.int .u32 i.imm) := hfv.iterAt (by omega) _ _
                have hit2 : Hid ((wr.iterAt (B + 1) (bsl (fieldsB n)) (j + 1)).drew.heap[B + 1]? = some (.stringIter (fieldsS (n : Int)) (j + 1))) := Lib.iterAt_heap wr (B + 1) _ j _ hit.out
                have hbb2 : Below w.heap.size w (wr.iterAt (B + 1) (bsl (fieldsB n)) (j + 1)).drew := (Lib.below_iterAt hbb (by omega) _ _).drew
                have hres2 : Five (wr.iterAt (B + 1) (bsl (fieldsB n)) (j + 1)).drew w.heap.size 24 (.int .i64 0) (.int .i64 0) (.int .i64 0) (.int .i64 0) (.int .u32 0) := hres.iterAt (by omega) _ _
                go_wp2_with (go_at_call 45; refine (place_106 _).mono ?_; rintro e w' ⟨rfl, rfl⟩)
                go_still_tail 8, (by kernel_rfl)
                change wpList _ _ _ _ _ (wr.iterAt (B + 1) (bsl (fieldsB n)) (j + 1)).drew
                generalize (wr.iterAt (B + 1) (bsl (fieldsB n)) (j + 1)).drew = w4 at *
                go_wp2_with (fail)
                have hv : bits .and .u32 x (67108864 - 1) = x % 67108864 := and_26 x (by omega) (by omega)
                refine (lay_imm B _ _ (by omega) _ _ _ _ _ _ hf2).mono ?_
                rintro e w' ⟨rfl, rfl⟩
                rw [hv]
                clear hv
                go_wp2
                go_roundw
                case rel => exact ⟨j + 1, putF x i 106, by omega, by rw [HS.out, putL_snoc, HI.out], HOP.out, iter_setCell hit2.out _ (by simp) _, hf2.set4 _, hbb2.setCell (by simp; omega) _, hres2.of_block (Below.heap_setCell _ _ _ _ (by simp; omega))⟩
                case measure => rw [iterPos_of (iter_setCell hit2.out _ (by simp) _), iterPos_of hit.out]; omega
            · have hnx : ∀ ty, (Instr.next (.pointer (some ⟨B + 1, 0, none⟩)) true ty).run Tryz.prog wr = _ := fun ty => next_fin_at (P := Tryz.prog) wr (B + 1) (fieldsB n) j ty hit.out hlt2
              have hdec : Hid (i = decZ x) := by
                show i = decZ x
                rw [decFrom_step x n hn1 HM.out hn2, show 54 - n = (53 - n) + 1 from by omega, decFrom, hit_of x n hmaj hfix, HI.out, List.take_of_length_le (by omega)]
                rfl
              obtain ⟨d0, d1, d2, d3, d4⟩ := hfv.cells
              obtain ⟨e0, e1, e2, e3, e4⟩ := hres.cells
              obtain ⟨f0, f1, f2, f3, f4⟩ := hres.free
              go_wp2
              have HFin := hres.fill (.int .i64 i.op) (.int .i64 i.s) (.int .i64 i.t) (.int .i64 i.d) (.int .u32 i.imm)
              have HBF := below_fill hbb (Nat.le_refl _) (.int .i64 i.op) (.int .i64 i.s) (.int .i64 i.t) (.int .i64 i.d) (.int .u32 i.imm)
              change bodyPost _ _ _ _ _ (fill5 wr w.heap.size (.int .i64 i.op) (.int .i64 i.s) (.int .i64 i.t) (.int .i64 i.d) (.int .u32 i.imm))
              generalize fill5 wr w.heap.size (.int .i64 i.op) (.int .i64 i.s) (.int .i64 i.t) (.int .i64 i.d) (.int .u32 i.imm) = W5 at *
              obtain ⟨q0, q1, q2, q3, q4⟩ := HFin.cells
              refine bodyPost_ret (v := insV i) (by simp [results, Tryz.results14, go_sem, q0, q1, q2, q3, q4]) rfl ⟨by rw [hdec.out], HBF⟩
        · have hfix' : (bits .andNot .u32 x (maskZ (n : Int)) != fixedZ (n : Int)) = true := by simpa using hfix
          go_wp2
          go_roundw
          case rel => exact ⟨n + 1, by omega, by omega, by go_num, miss_next HM.out (miss_fix x n hfix), (hB2.trans (hb5.mono hB2.size)), (hbl2.below hb5 hbl2.lt)⟩
          case measure => simp [intOf]; omega
      · have hmaj' : (x / 67108864 != majorZ (n : Int)) = true := by simpa using hmaj
        go_quiet (fail)
        go_wp2
        go_roundw
        case rel => exact ⟨n + 1, by omega, by omega, by go_num, miss_next HM.out (miss_maj x n hmaj), below_drewN hB2 _, hbl2⟩
        case measure => simp [intOf]; omega
    · obtain ⟨e0, e1, e2, e3, e4⟩ := hbl.cells
      obtain ⟨f0, f1, f2, f3, f4⟩ := hbl.free
      go_wp2
      have hz : decZ x = ⟨0, 0, 0, 0, 0⟩ := by
        rw [decFrom_step x n hn1 HM.out hn2, show 54 - n = 0 from by omega]
        rfl
      have HFin := hbl.fill (.int .i64 0) (.int .i64 0) (.int .i64 0) (.int .i64 0) (.int .u32 0)
      have HBF := below_fill hb (Nat.le_refl _) (.int .i64 0) (.int .i64 0) (.int .i64 0) (.int .i64 0) (.int .u32 0)
      change bodyPost _ _ _ _ _ (fill5 wr w.heap.size (.int .i64 0) (.int .i64 0) (.int .i64 0) (.int .i64 0) (.int .u32 0))
      generalize fill5 wr w.heap.size (.int .i64 0) (.int .i64 0) (.int .i64 0) (.int .i64 0) (.int .u32 0) = W5 at *
      obtain ⟨q0, q1, q2, q3, q4⟩ := HFin.cells
      refine bodyPost_ret (v := insV ⟨0, 0, 0, 0, 0⟩) (by simp [results, Tryz.results14, go_sem, q0, q1, q2, q3, q4]) rfl ⟨by rw [hz], HBF⟩
end Go.Proofs.YtnppegldebocmaaGreatDoor
