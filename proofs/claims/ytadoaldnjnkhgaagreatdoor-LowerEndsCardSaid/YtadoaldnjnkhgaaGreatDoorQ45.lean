/- The walk of the document's ResultOf: load, store, quotients, sums. Conditions: as each theorem states. -/
import Derived.Test.YtadoaldnjnkhgaaGreatDoorQ10
set_option linter.unusedVariables false
set_option linter.unusedSimpArgs false
namespace Go.Proofs.YtadoaldnjnkhgaaGreatDoor
open Go.RowKit
set_option maxRecDepth 100000
set_option maxHeartbeats 4000000
abbrev Four (w : World) (b : Nat) (t : TypeId) (a0 a1 a2 a3 : Value) : Prop := w.heap[b]? = some (.cells #[a0, a1, a2, a3] t (0, 0))
theorem Four.cells {w : World} {b : Nat} {t : TypeId} {a0 a1 a2 a3 : Value} (h : Four w b t a0 a1 a2 a3) : w.cell? ⟨b, 0, none⟩ = some a0 ∧ w.cell? ⟨b, 1, none⟩ = some a1 ∧ w.cell? ⟨b, 2, none⟩ = some a2 ∧ w.cell? ⟨b, 3, none⟩ = some a3 ∧ w.frozen? ⟨b, 0, none⟩ = false ∧ w.frozen? ⟨b, 1, none⟩ = false ∧ w.frozen? ⟨b, 2, none⟩ = false ∧ w.frozen? ⟨b, 3, none⟩ = false := by
  unfold Four at h
  refine ⟨?_, ?_, ?_, ?_, ?_, ?_, ?_, ?_⟩ <;> simp [World.cell?, World.frozen?, h]
abbrev fill4 (w : World) (b : Nat) (v0 v1 v2 v3 : Value) : World := (((w.setCell ⟨b, 0, none⟩ v0).setCell ⟨b, 1, none⟩ v1).setCell ⟨b, 2, none⟩ v2).setCell ⟨b, 3, none⟩ v3
theorem Four.fill {w : World} {b : Nat} {t : TypeId} {a0 a1 a2 a3 : Value} (h : Four w b t a0 a1 a2 a3) (v0 v1 v2 v3 : Value) : Four (fill4 w b v0 v1 v2 v3) b t v0 v1 v2 v3 :=
  Joins.block_setCell (Joins.block_setCell (Joins.block_setCell (Joins.block_setCell h v0) v1) v2) v3
theorem Four.new (w : World) (a0 a1 a2 a3 : Value) (t : TypeId) : Four (w.alloc (.cells #[a0, a1, a2, a3] t)) w.heap.size t a0 a1 a2 a3 := heap_alloc_new w _
theorem below_fill4 {B : Nat} {a w : World} (h : Below B a w) {b : Nat} (hb : B ≤ b) (v0 v1 v2 v3 : Value) : Below B a (fill4 w b v0 v1 v2 v3) := (((h.setCell hb _).setCell hb _).setCell hb _).setCell hb _
section
variable (X : Regs) (xs : Array Value) (hx : xs.size = 64) (hX : ∀ k (h : k < 64), xs[k]'(by omega) = .int .u32 (X k)) (r : Nat)
include hx hX
theorem res_sum (k : OpK) (hk : isSumK k = true) (kt : ByteArray) (hkt : bsl k.text = kt) (n1 : (kt.toList == [115, 101, 116]) = false) (n2 : (kt.toList == [99, 111, 112, 121]) = false) (n3 : (kt.toList == [111, 118, 101, 114, 43]) = false) (n4 : (kt.toList == [111, 118, 101, 114, 45]) = false) (n5 : (kt.toList == [108, 111, 97, 100]) = false) (n6 : (kt.toList == [115, 116, 111, 114, 101]) = false) (n7 : (kt.toList == [105, 102]) = false) (n8 : (kt.toList == [111, 117, 116]) = false) (n9 : (kt.toList == [111, 117, 116, 114]) = false) (nd : divK k = false) (d a : Nat) (b imm : Int) (n : Nat) (ha : a < 64) (hb0 : 0 ≤ b) (hb : b < 64) (hXr : ∀ k, Reg32 (X k)) (w : World) :
    Calls Tryz.prog 58 #[.agg xs, .pointer (some ⟨r, 0, none⟩), opA kt d a b imm n] w fun e w' => e = .returned (resA (sumZ k (X a) (X b.toNat)) 0 false false) ∧ Below w.heap.size w w' := by
  have hxa := hX a ha
  have hbn : b.toNat < 64 := by omega
  have hxb := hX b.toNat hbn
  obtain ⟨a0, a1⟩ := hXr a
  obtain ⟨b0, b1⟩ := hXr b.toNat
  have HD := Lib.hid (fun wx => isDiv_any k wx)
  have HS := Lib.hid (fun wx => sumOf_any hk (X a) (X b.toNat) a0 a1 b0 b1 wx)
  rw [nd, hkt] at HD
  rw [hkt] at HS
  generalize sumZ k (X a) (X b.toNat) = sv at *
  clear hkt hk nd
  go_enter Tryz.func58, Tryz.ntmps58
  go_wp2_with fail
  (with_reducible refine (HD.out _).mono ?_)
  rintro e w1 ⟨rfl, rfl⟩
  go_wp2_with fail
  (with_reducible refine (HS.out _).mono ?_)
  rintro e w1 ⟨rfl, rfl⟩
  go_wp2
  exact bodyPost_ret (v := resA sv 0 false false) (by simp [results, Tryz.results58, go_sem]) rfl ⟨rfl, below3 _ _ _ _⟩
theorem res_store_no {bw ba bh : Nat} {ws : List Int} {wt ht : Nat → Bool} (d a : Nat) (b imm : Int) (n : Nat) (ha : a < 64) (hb0 : 0 ≤ b) (hb : b < 64) (hd : d = 1 ∨ d = 2 ∨ d = 4) (hi : Reg32 imm) (hXr : ∀ k, Reg32 (X k)) (hr : ¬ reach ((X a + imm) % 4294967296) d = true) (w : World) (h : RamM w r bw ba bh ws wt ht) :
    Calls Tryz.prog 58 #[.agg xs, .pointer (some ⟨r, 0, none⟩), opA ⟨#[115, 116, 111, 114, 101]⟩ d a b imm n] w fun e w' => e = .returned (resA 0 0 true false) ∧ Below w.heap.size w w' := by
  have hxa := hX a ha
  have hbn : b.toNat < 64 := by omega
  have hxb := hX b.toNat hbn
  obtain ⟨a0, a1⟩ := hXr a
  obtain ⟨b0, b1⟩ := hXr b.toNat
  obtain ⟨i0, i1⟩ := hi
  have HP := Lib.hid (fun wx => plusH_any (X a) imm a0 a1 i0 i1 wx)
  have HE := Lib.hid (fun wx => reachError_any ((X a + imm) % 4294967296) (by omega) (by omega) d hd wx)
  have q0 : 0 ≤ (X a + imm) % 4294967296 := by omega
  have q1 : (X a + imm) % 4294967296 < 4294967296 := by omega
  generalize (X a + imm) % 4294967296 = q at *
  have h0 : 0 < reachErr q d := reachErr_pos hr
  generalize reachErr q d = er at *
  have h1 : (0 : Int) < (er : Int) := by omega
  clear h hr h0
  go_enter Tryz.func58, Tryz.ntmps58
  go_wp2_with fail
  (with_reducible refine (HP.out _).mono ?_)
  rintro e w1 ⟨rfl, rfl⟩
  go_wp2_with fail
  (with_reducible refine (HE.out _).mono ?_)
  rintro e w1 ⟨rfl, rfl⟩
  go_wp2
  exact bodyPost_ret (v := resA 0 0 true false) (by simp [results, Tryz.results58, go_sem]) rfl ⟨rfl, below3 _ _ _ _⟩
theorem res_store_yes {bw ba bh : Nat} {ws : List Int} {wt ht : Nat → Bool} (d a : Nat) (b imm : Int) (n : Nat) (ha : a < 64) (hb0 : 0 ≤ b) (hb : b < 64) (hd : d = 1 ∨ d = 2 ∨ d = 4) (hi : Reg32 imm) (hXr : ∀ k, Reg32 (X k)) (hr : reach ((X a + imm) % 4294967296) d = true) (w : World) (h : RamM w r bw ba bh ws wt ht) :
    Calls Tryz.prog 58 #[.agg xs, .pointer (some ⟨r, 0, none⟩), opA ⟨#[115, 116, 111, 114, 101]⟩ d a b imm n] w fun e w' => e = .returned (resA (X b.toNat) ((X a + imm) % 4294967296) (wt (((X a + imm) % 4294967296).toNat / 256)) false) ∧ Below w.heap.size w w' := by
  have hxa := hX a ha
  have hbn : b.toNat < 64 := by omega
  have hxb := hX b.toNat hbn
  obtain ⟨a0, a1⟩ := hXr a
  obtain ⟨b0, b1⟩ := hXr b.toNat
  obtain ⟨i0, i1⟩ := hi
  have HP := Lib.hid (fun wx => plusH_any (X a) imm a0 a1 i0 i1 wx)
  have HE := Lib.hid (fun wx => reachError_any ((X a + imm) % 4294967296) (by omega) (by omega) d hd wx)
  have q0 : 0 ≤ (X a + imm) % 4294967296 := by omega
  have q1 : (X a + imm) % 4294967296 < 4294967296 := by omega
  generalize (X a + imm) % 4294967296 = q at *
  rw [reachErr_0 hr] at HE
  have HE2 : Hid (∀ wx, Calls Tryz.prog 95 #[.int .u32 q, .int .i64 (d : Int)] wx fun e w' => e = .returned (.int .i64 0) ∧ wx = w') := HE
  obtain ⟨p, hp⟩ : ∃ p : Nat, q.toNat / 256 = p := ⟨_, rfl⟩
  have hql : q < 16384 := (reach_parts hr).2
  have hp2 : q / 256 = (p : Int) := by omega
  have hp3 : (p : Int) < 64 := by omega
  have hpl : p < 64 := by omega
  have HR3 := h.below (below3 w (.cells xs 106) (.cells #[.string ⟨#[115, 116, 111, 114, 101]⟩, .int .i64 (d : Int), .int .i64 (a : Int), .int .i64 b, .int .u32 imm, .int .i64 (n : Int)] 86) (.cells #[.int .u32 0, .int .u32 0, .bool false, .bool false] 139))
  obtain ⟨c0, c1, c2⟩ := HR3.cells
  have hw := HR3.watch.cell hpl
  unfold boolsG at hw
  rw [hp]
  generalize hwt : wt p = wv at *
  clear h HR3 hp
  clear HE hr
  go_enter Tryz.func58, Tryz.ntmps58
  go_wp2_with fail
  (with_reducible refine (HP.out _).mono ?_)
  rintro e w1 ⟨rfl, rfl⟩
  go_wp2_with fail
  (with_reducible refine (HE2.out _).mono ?_)
  rintro e w1 ⟨rfl, rfl⟩
  go_wp2
  exact bodyPost_ret (v := resA (X b.toNat) q wv false) (by simp [results, Tryz.results58, go_sem]) rfl ⟨rfl, below3 _ _ _ _⟩
theorem res_load_no_neg {bw ba bh : Nat} {ws : List Int} {wt ht : Nat → Bool} (d a : Nat) (b imm : Int) (n : Nat) (ha : a < 64) (hb : b = -1 ∨ b = -2) (hi : Reg32 imm) (hXr : ∀ k, Reg32 (X k)) (hr : ¬ reach ((X a + imm) % 4294967296) b.natAbs = true) (w : World) (h : RamM w r bw ba bh ws wt ht) :
    Calls Tryz.prog 58 #[.agg xs, .pointer (some ⟨r, 0, none⟩), opA ⟨#[108, 111, 97, 100]⟩ d a b imm n] w fun e w' => e = .returned (resA 0 0 true false) ∧ Below w.heap.size w w' := by
  have hxa := hX a ha
  obtain ⟨a0, a1⟩ := hXr a
  obtain ⟨i0, i1⟩ := hi
  have HP := Lib.hid (fun wx => plusH_any (X a) imm a0 a1 i0 i1 wx)
  obtain ⟨q, hq⟩ : ∃ q : Nat, (X a + imm) % 4294967296 = (q : Int) := ⟨((X a + imm) % 4294967296).toNat, by omega⟩
  obtain ⟨z, hzz⟩ : ∃ z : Nat, b.natAbs = z := ⟨_, rfl⟩
  have hz : z = 1 ∨ z = 2 ∨ z = 4 := by omega
  have hbz : -b = (z : Int) := by omega
  have hz4 : (z : Int) ≤ 4 := by omega
  have hz1 : (1 : Int) ≤ (z : Int) := by omega
  have hq1 : (q : Int) < 4294967296 := by omega
  have hq0 : (0 : Int) ≤ (q : Int) := by omega
  rw [hzz] at hr
  rw [hq] at hr HP
  have hdb : decide (b < 0) = true := decide_eq_true (by omega)
  have hbl : b < 0 := by omega
  have HR3 := (h.below (below3 w (.cells xs 106) (.cells #[.string ⟨#[108, 111, 97, 100]⟩, .int .i64 (d : Int), .int .i64 (a : Int), .int .i64 b, .int .u32 imm, .int .i64 (n : Int)] 86) (.cells #[.int .u32 0, .int .u32 0, .bool false, .bool false] 139)))
  have HL := Lib.hid (fun m : Nat => (load_no (HR3.below (blw_drewN (Below.refl _ _) m)) (q : Int) (by omega) (by omega) z hz true hr))
  have h0 : 0 < reachErr (q : Int) z := reachErr_pos hr
  generalize reachErr (q : Int) z = er at *
  have h1 : (0 : Int) < (er : Int) := by omega
  have h0b : decide (0 < er) = true := decide_eq_true h0
  clear h HR3 hr hq hzz hz hb h0
  go_enter Tryz.func58, Tryz.ntmps58
  go_wp2_with fail
  go_quiet (first | (go_at_call 61; (with_reducible refine (HP.out _).mono ?_); exact fun _ _ h => ⟨h.1, _, h.2.symm⟩) | (go_at_call 94; (with_reducible refine (HL.out _).mono ?_); exact fun _ _ h => ⟨h.1, _, h.2.symm⟩))
  have HFW : Hid (Four ((W3 w xs ⟨#[108, 111, 97, 100]⟩ d a b imm n).drewN nq) (w.heap.size + 1 + 1) 139 (.int .u32 0) (.int .u32 0) (.bool false) (.bool false)) := by
    refine Lib.hid ?_
    have := Four.new ((w.alloc (.cells xs 106)).alloc (.cells #[.string ⟨#[108, 111, 97, 100]⟩, .int .i64 (d : Int), .int .i64 (a : Int), .int .i64 b, .int .u32 imm, .int .i64 (n : Int)] 86)) (.int .u32 0) (.int .u32 0) (.bool false) (.bool false) 139
    have e : ((w.alloc (.cells xs 106)).alloc (.cells #[.string ⟨#[108, 111, 97, 100]⟩, .int .i64 (d : Int), .int .i64 (a : Int), .int .i64 b, .int .u32 imm, .int .i64 (n : Int)] 86)).heap.size = w.heap.size + 1 + 1 := by simp
    rw [e] at this
    exact this
  have HBW : Hid (Below w.heap.size w ((W3 w xs ⟨#[108, 111, 97, 100]⟩ d a b imm n).drewN nq)) := Lib.hid (blw_drewN (below3 w _ _ _) nq)
  change Exit.then _ _ Exit.normal _ ((W3 w xs ⟨#[108, 111, 97, 100]⟩ d a b imm n).drewN nq)
  generalize (W3 w xs ⟨#[108, 111, 97, 100]⟩ d a b imm n).drewN nq = W4 at *
  obtain ⟨k0, k1, k2, k3, f0, f1, f2, f3⟩ := Four.cells HFW.out
  go_wp2
  change bodyPost _ _ _ _ _ (fill4 W4 (w.heap.size + 1 + 1) (.int .u32 0) (.int .u32 0) (.bool true) (.bool false))
  have HF5 := Four.fill HFW.out (.int .u32 0) (.int .u32 0) (.bool true) (.bool false)
  have HB5 := Lib.hid (below_fill4 HBW.out (b := w.heap.size + 1 + 1) (by omega) (.int .u32 0) (.int .u32 0) (.bool true) (.bool false))
  clear k0 k1 k2 k3 f0 f1 f2 f3
  generalize fill4 W4 (w.heap.size + 1 + 1) (.int .u32 0) (.int .u32 0) (.bool true) (.bool false) = W5 at *
  obtain ⟨k0, k1, k2, k3, _⟩ := Four.cells HF5
  exact bodyPost_ret (v := resA 0 0 true false) (by simp [results, Tryz.results58, go_sem, k0, k1, k2, k3]) rfl ⟨rfl, HB5.out⟩
theorem res_load_no_pos {bw ba bh : Nat} {ws : List Int} {wt ht : Nat → Bool} (d a : Nat) (b imm : Int) (n : Nat) (ha : a < 64) (hb : b = 1 ∨ b = 2 ∨ b = 4) (hi : Reg32 imm) (hXr : ∀ k, Reg32 (X k)) (hr : ¬ reach ((X a + imm) % 4294967296) b.natAbs = true) (w : World) (h : RamM w r bw ba bh ws wt ht) :
    Calls Tryz.prog 58 #[.agg xs, .pointer (some ⟨r, 0, none⟩), opA ⟨#[108, 111, 97, 100]⟩ d a b imm n] w fun e w' => e = .returned (resA 0 0 true false) ∧ Below w.heap.size w w' := by
  have hxa := hX a ha
  obtain ⟨a0, a1⟩ := hXr a
  obtain ⟨i0, i1⟩ := hi
  have HP := Lib.hid (fun wx => plusH_any (X a) imm a0 a1 i0 i1 wx)
  obtain ⟨q, hq⟩ : ∃ q : Nat, (X a + imm) % 4294967296 = (q : Int) := ⟨((X a + imm) % 4294967296).toNat, by omega⟩
  obtain ⟨z, hzz⟩ : ∃ z : Nat, b.natAbs = z := ⟨_, rfl⟩
  have hz : z = 1 ∨ z = 2 ∨ z = 4 := by omega
  have hbz : b = (z : Int) := by omega
  subst hbz
  clear hzz
  have hzz : ((z : Int)).natAbs = z := Int.natAbs_natCast z
  have hz4 : (z : Int) ≤ 4 := by omega
  have hz1 : (1 : Int) ≤ (z : Int) := by omega
  have hq1 : (q : Int) < 4294967296 := by omega
  have hq0 : (0 : Int) ≤ (q : Int) := by omega
  rw [hzz] at hr
  rw [hq] at hr HP
  have hdb : decide ((z : Int) < 0) = false := decide_eq_false (by omega)
  have hbl : 0 ≤ (z : Int) := by omega
  have HR3 := (h.below (below3 w (.cells xs 106) (.cells #[.string ⟨#[108, 111, 97, 100]⟩, .int .i64 (d : Int), .int .i64 (a : Int), .int .i64 (z : Int), .int .u32 imm, .int .i64 (n : Int)] 86) (.cells #[.int .u32 0, .int .u32 0, .bool false, .bool false] 139)))
  have HL := Lib.hid (fun m : Nat => (load_no (HR3.below (blw_drewN (Below.refl _ _) m)) (q : Int) (by omega) (by omega) z hz false hr))
  have h0 : 0 < reachErr (q : Int) z := reachErr_pos hr
  generalize reachErr (q : Int) z = er at *
  have h1 : (0 : Int) < (er : Int) := by omega
  have h0b : decide (0 < er) = true := decide_eq_true h0
  clear h HR3 hr hq hzz hz hb h0
  go_enter Tryz.func58, Tryz.ntmps58
  go_wp2_with fail
  go_quiet (first | (go_at_call 61; (with_reducible refine (HP.out _).mono ?_); exact fun _ _ h => ⟨h.1, _, h.2.symm⟩) | (go_at_call 94; (with_reducible refine (HL.out _).mono ?_); exact fun _ _ h => ⟨h.1, _, h.2.symm⟩))
  have HFW : Hid (Four ((W3 w xs ⟨#[108, 111, 97, 100]⟩ d a (z : Int) imm n).drewN nq) (w.heap.size + 1 + 1) 139 (.int .u32 0) (.int .u32 0) (.bool false) (.bool false)) := by
    refine Lib.hid ?_
    have := Four.new ((w.alloc (.cells xs 106)).alloc (.cells #[.string ⟨#[108, 111, 97, 100]⟩, .int .i64 (d : Int), .int .i64 (a : Int), .int .i64 (z : Int), .int .u32 imm, .int .i64 (n : Int)] 86)) (.int .u32 0) (.int .u32 0) (.bool false) (.bool false) 139
    have e : ((w.alloc (.cells xs 106)).alloc (.cells #[.string ⟨#[108, 111, 97, 100]⟩, .int .i64 (d : Int), .int .i64 (a : Int), .int .i64 (z : Int), .int .u32 imm, .int .i64 (n : Int)] 86)).heap.size = w.heap.size + 1 + 1 := by simp
    rw [e] at this
    exact this
  have HBW : Hid (Below w.heap.size w ((W3 w xs ⟨#[108, 111, 97, 100]⟩ d a (z : Int) imm n).drewN nq)) := Lib.hid (blw_drewN (below3 w _ _ _) nq)
  change Exit.then _ _ Exit.normal _ ((W3 w xs ⟨#[108, 111, 97, 100]⟩ d a (z : Int) imm n).drewN nq)
  generalize (W3 w xs ⟨#[108, 111, 97, 100]⟩ d a (z : Int) imm n).drewN nq = W4 at *
  obtain ⟨k0, k1, k2, k3, f0, f1, f2, f3⟩ := Four.cells HFW.out
  go_wp2
  change bodyPost _ _ _ _ _ (fill4 W4 (w.heap.size + 1 + 1) (.int .u32 0) (.int .u32 0) (.bool true) (.bool false))
  have HF5 := Four.fill HFW.out (.int .u32 0) (.int .u32 0) (.bool true) (.bool false)
  have HB5 := Lib.hid (below_fill4 HBW.out (b := w.heap.size + 1 + 1) (by omega) (.int .u32 0) (.int .u32 0) (.bool true) (.bool false))
  clear k0 k1 k2 k3 f0 f1 f2 f3
  generalize fill4 W4 (w.heap.size + 1 + 1) (.int .u32 0) (.int .u32 0) (.bool true) (.bool false) = W5 at *
  obtain ⟨k0, k1, k2, k3, _⟩ := Four.cells HF5
  exact bodyPost_ret (v := resA 0 0 true false) (by simp [results, Tryz.results58, go_sem, k0, k1, k2, k3]) rfl ⟨rfl, HB5.out⟩
theorem res_load_yes_neg {bw ba bh : Nat} {ws : List Int} {wt ht : Nat → Bool} (d a : Nat) (b imm : Int) (n : Nat) (ha : a < 64) (hb : b = -1 ∨ b = -2) (hi : Reg32 imm) (hXr : ∀ k, Reg32 (X k)) (hr : reach ((X a + imm) % 4294967296) b.natAbs = true) (w : World) (h : RamM w r bw ba bh ws wt ht) :
    Calls Tryz.prog 58 #[.agg xs, .pointer (some ⟨r, 0, none⟩), opA ⟨#[108, 111, 97, 100]⟩ d a b imm n] w fun e w' => e = .returned (resA (wideZ (loadN ws ((X a + imm) % 4294967296).toNat b.natAbs) b.natAbs (decide (b < 0))) 0 false false) ∧ Below w.heap.size w w' := by
  have hxa := hX a ha
  obtain ⟨a0, a1⟩ := hXr a
  obtain ⟨i0, i1⟩ := hi
  have HP := Lib.hid (fun wx => plusH_any (X a) imm a0 a1 i0 i1 wx)
  obtain ⟨q, hq⟩ : ∃ q : Nat, (X a + imm) % 4294967296 = (q : Int) := ⟨((X a + imm) % 4294967296).toNat, by omega⟩
  obtain ⟨z, hzz⟩ : ∃ z : Nat, b.natAbs = z := ⟨_, rfl⟩
  have hz : z = 1 ∨ z = 2 ∨ z = 4 := by omega
  have hbz : -b = (z : Int) := by omega
  have hz4 : (z : Int) ≤ 4 := by omega
  have hz1 : (1 : Int) ≤ (z : Int) := by omega
  have hq1 : (q : Int) < 4294967296 := by omega
  have hq0 : (0 : Int) ≤ (q : Int) := by omega
  rw [hzz] at hr ⊢
  rw [hq] at hr HP ⊢
  have hdb : decide (b < 0) = true := decide_eq_true (by omega)
  have hbl : b < 0 := by omega
  rw [hdb]
  have HR3 := (h.below (below3 w (.cells xs 106) (.cells #[.string ⟨#[108, 111, 97, 100]⟩, .int .i64 (d : Int), .int .i64 (a : Int), .int .i64 b, .int .u32 imm, .int .i64 (n : Int)] 86) (.cells #[.int .u32 0, .int .u32 0, .bool false, .bool false] 139)))
  have HL := Lib.hid (fun m : Nat => (load_yes (HR3.below (blw_drewN (Below.refl _ _) m)) q z hz true (by omega) hr))
  have hres : Hid (wideZ (loadN ws ((q : Int)).toNat z) z true = wideZ (loadN ws q z) z true) := Lib.hid (by rw [Int.toNat_natCast])
  rw [hres.out]
  generalize wideZ (loadN ws q z) z true = lv at *
  clear h HR3 hr hq hzz hz hb hres
  go_enter Tryz.func58, Tryz.ntmps58
  go_wp2_with fail
  go_quiet (first | (go_at_call 61; (with_reducible refine (HP.out _).mono ?_); exact fun _ _ h => ⟨h.1, _, h.2.symm⟩) | (go_at_call 94; (with_reducible refine (HL.out _).mono ?_); exact fun _ _ h => ⟨h.1, _, h.2.symm⟩))
  have HFW : Hid (Four ((W3 w xs ⟨#[108, 111, 97, 100]⟩ d a b imm n).drewN nq) (w.heap.size + 1 + 1) 139 (.int .u32 0) (.int .u32 0) (.bool false) (.bool false)) := by
    refine Lib.hid ?_
    have := Four.new ((w.alloc (.cells xs 106)).alloc (.cells #[.string ⟨#[108, 111, 97, 100]⟩, .int .i64 (d : Int), .int .i64 (a : Int), .int .i64 b, .int .u32 imm, .int .i64 (n : Int)] 86)) (.int .u32 0) (.int .u32 0) (.bool false) (.bool false) 139
    have e : ((w.alloc (.cells xs 106)).alloc (.cells #[.string ⟨#[108, 111, 97, 100]⟩, .int .i64 (d : Int), .int .i64 (a : Int), .int .i64 b, .int .u32 imm, .int .i64 (n : Int)] 86)).heap.size = w.heap.size + 1 + 1 := by simp
    rw [e] at this
    exact this
  have HBW : Hid (Below w.heap.size w ((W3 w xs ⟨#[108, 111, 97, 100]⟩ d a b imm n).drewN nq)) := Lib.hid (blw_drewN (below3 w _ _ _) nq)
  change Exit.then _ _ Exit.normal _ ((W3 w xs ⟨#[108, 111, 97, 100]⟩ d a b imm n).drewN nq)
  generalize (W3 w xs ⟨#[108, 111, 97, 100]⟩ d a b imm n).drewN nq = W4 at *
  obtain ⟨k0, k1, k2, k3, f0, f1, f2, f3⟩ := Four.cells HFW.out
  go_wp2
  change bodyPost _ _ _ _ _ (fill4 W4 (w.heap.size + 1 + 1) (.int .u32 lv) (.int .u32 0) (.bool false) (.bool false))
  have HF5 := Four.fill HFW.out (.int .u32 lv) (.int .u32 0) (.bool false) (.bool false)
  have HB5 := Lib.hid (below_fill4 HBW.out (b := w.heap.size + 1 + 1) (by omega) (.int .u32 lv) (.int .u32 0) (.bool false) (.bool false))
  clear k0 k1 k2 k3 f0 f1 f2 f3
  generalize fill4 W4 (w.heap.size + 1 + 1) (.int .u32 lv) (.int .u32 0) (.bool false) (.bool false) = W5 at *
  obtain ⟨k0, k1, k2, k3, _⟩ := Four.cells HF5
  exact bodyPost_ret (v := resA lv 0 false false) (by simp [results, Tryz.results58, go_sem, k0, k1, k2, k3]) rfl ⟨rfl, HB5.out⟩
theorem res_load_yes_pos {bw ba bh : Nat} {ws : List Int} {wt ht : Nat → Bool} (d a : Nat) (b imm : Int) (n : Nat) (ha : a < 64) (hb : b = 1 ∨ b = 2 ∨ b = 4) (hi : Reg32 imm) (hXr : ∀ k, Reg32 (X k)) (hr : reach ((X a + imm) % 4294967296) b.natAbs = true) (w : World) (h : RamM w r bw ba bh ws wt ht) :
    Calls Tryz.prog 58 #[.agg xs, .pointer (some ⟨r, 0, none⟩), opA ⟨#[108, 111, 97, 100]⟩ d a b imm n] w fun e w' => e = .returned (resA (wideZ (loadN ws ((X a + imm) % 4294967296).toNat b.natAbs) b.natAbs (decide (b < 0))) 0 false false) ∧ Below w.heap.size w w' := by
  have hxa := hX a ha
  obtain ⟨a0, a1⟩ := hXr a
  obtain ⟨i0, i1⟩ := hi
  have HP := Lib.hid (fun wx => plusH_any (X a) imm a0 a1 i0 i1 wx)
  obtain ⟨q, hq⟩ : ∃ q : Nat, (X a + imm) % 4294967296 = (q : Int) := ⟨((X a + imm) % 4294967296).toNat, by omega⟩
  obtain ⟨z, hzz⟩ : ∃ z : Nat, b.natAbs = z := ⟨_, rfl⟩
  have hz : z = 1 ∨ z = 2 ∨ z = 4 := by omega
  have hbz : b = (z : Int) := by omega
  subst hbz
  clear hzz
  have hzz : ((z : Int)).natAbs = z := Int.natAbs_natCast z
  have hz4 : (z : Int) ≤ 4 := by omega
  have hz1 : (1 : Int) ≤ (z : Int) := by omega
  have hq1 : (q : Int) < 4294967296 := by omega
  have hq0 : (0 : Int) ≤ (q : Int) := by omega
  rw [hzz] at hr ⊢
  rw [hq] at hr HP ⊢
  have hdb : decide ((z : Int) < 0) = false := decide_eq_false (by omega)
  have hbl : 0 ≤ (z : Int) := by omega
  rw [hdb]
  have HR3 := (h.below (below3 w (.cells xs 106) (.cells #[.string ⟨#[108, 111, 97, 100]⟩, .int .i64 (d : Int), .int .i64 (a : Int), .int .i64 (z : Int), .int .u32 imm, .int .i64 (n : Int)] 86) (.cells #[.int .u32 0, .int .u32 0, .bool false, .bool false] 139)))
  have HL := Lib.hid (fun m : Nat => (load_yes (HR3.below (blw_drewN (Below.refl _ _) m)) q z hz false (fun _ => rfl) hr))
  have hres : Hid (wideZ (loadN ws ((q : Int)).toNat z) z false = wideZ (loadN ws q z) z false) := Lib.hid (by rw [Int.toNat_natCast])
  rw [hres.out]
  generalize wideZ (loadN ws q z) z false = lv at *
  clear h HR3 hr hq hzz hz hb hres
  go_enter Tryz.func58, Tryz.ntmps58
  go_wp2_with fail
  go_quiet (first | (go_at_call 61; (with_reducible refine (HP.out _).mono ?_); exact fun _ _ h => ⟨h.1, _, h.2.symm⟩) | (go_at_call 94; (with_reducible refine (HL.out _).mono ?_); exact fun _ _ h => ⟨h.1, _, h.2.symm⟩))
  have HFW : Hid (Four ((W3 w xs ⟨#[108, 111, 97, 100]⟩ d a (z : Int) imm n).drewN nq) (w.heap.size + 1 + 1) 139 (.int .u32 0) (.int .u32 0) (.bool false) (.bool false)) := by
    refine Lib.hid ?_
    have := Four.new ((w.alloc (.cells xs 106)).alloc (.cells #[.string ⟨#[108, 111, 97, 100]⟩, .int .i64 (d : Int), .int .i64 (a : Int), .int .i64 (z : Int), .int .u32 imm, .int .i64 (n : Int)] 86)) (.int .u32 0) (.int .u32 0) (.bool false) (.bool false) 139
    have e : ((w.alloc (.cells xs 106)).alloc (.cells #[.string ⟨#[108, 111, 97, 100]⟩, .int .i64 (d : Int), .int .i64 (a : Int), .int .i64 (z : Int), .int .u32 imm, .int .i64 (n : Int)] 86)).heap.size = w.heap.size + 1 + 1 := by simp
    rw [e] at this
    exact this
  have HBW : Hid (Below w.heap.size w ((W3 w xs ⟨#[108, 111, 97, 100]⟩ d a (z : Int) imm n).drewN nq)) := Lib.hid (blw_drewN (below3 w _ _ _) nq)
  change Exit.then _ _ Exit.normal _ ((W3 w xs ⟨#[108, 111, 97, 100]⟩ d a (z : Int) imm n).drewN nq)
  generalize (W3 w xs ⟨#[108, 111, 97, 100]⟩ d a (z : Int) imm n).drewN nq = W4 at *
  obtain ⟨k0, k1, k2, k3, f0, f1, f2, f3⟩ := Four.cells HFW.out
  go_wp2
  change bodyPost _ _ _ _ _ (fill4 W4 (w.heap.size + 1 + 1) (.int .u32 lv) (.int .u32 0) (.bool false) (.bool false))
  have HF5 := Four.fill HFW.out (.int .u32 lv) (.int .u32 0) (.bool false) (.bool false)
  have HB5 := Lib.hid (below_fill4 HBW.out (b := w.heap.size + 1 + 1) (by omega) (.int .u32 lv) (.int .u32 0) (.bool false) (.bool false))
  clear k0 k1 k2 k3 f0 f1 f2 f3
  generalize fill4 W4 (w.heap.size + 1 + 1) (.int .u32 lv) (.int .u32 0) (.bool false) (.bool false) = W5 at *
  obtain ⟨k0, k1, k2, k3, _⟩ := Four.cells HF5
  exact bodyPost_ret (v := resA lv 0 false false) (by simp [results, Tryz.results58, go_sem, k0, k1, k2, k3]) rfl ⟨rfl, HB5.out⟩
end
end Go.Proofs.YtadoaldnjnkhgaaGreatDoor
