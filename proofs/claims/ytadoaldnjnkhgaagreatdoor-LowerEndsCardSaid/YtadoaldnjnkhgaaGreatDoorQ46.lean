/- The walk of the document's ResultOf: quotients. Conditions: as each theorem states. -/
import Derived.Test.YtadoaldnjnkhgaaGreatDoorQ45
set_option linter.unusedVariables false
set_option linter.unusedSimpArgs false
namespace Go.Proofs.YtadoaldnjnkhgaaGreatDoor
open Go.RowKit
set_option maxRecDepth 100000
set_option maxHeartbeats 4000000
theorem cell_of_block {w : World} {b : Nat} {v : Value} {l : List Value} {t : TypeId} (h : w.heap[b]? = some (.cells ⟨v :: l⟩ t (0, 0))) : w.cell? ⟨b, 0, none⟩ = some v := by
  simp [World.cell?, h]
section
variable (X : Regs) (xs : Array Value) (hx : xs.size = 64) (hX : ∀ k (h : k < 64), xs[k]'(by omega) = .int .u32 (X k)) (r : Nat)
include hx hX
theorem res_quo_zero (d a : Nat) (b imm : Int) (n : Nat) (hd : d < 64) (ha : a < 64) (hb0 : 0 ≤ b) (hb : b < 64) (hXr : ∀ k, Reg32 (X k)) (hz : X b.toNat = 0) (w : World) :
    Calls Tryz.prog 58 #[.agg xs, .pointer (some ⟨r, 0, none⟩), opA ⟨#[113, 117, 111]⟩ d a b imm n] w fun e w' => e = .returned (resA (X d) 0 false false) ∧ Below w.heap.size w w' := by
  have hxa := hX a ha
  have hxd := hX d hd
  have hbn : b.toNat < 64 := by omega
  have hxb := hX b.toNat hbn
  obtain ⟨a0, a1⟩ := hXr a
  obtain ⟨b0, b1⟩ := hXr b.toNat
  have HK := Lib.hid (fun wx => isDiv_quo wx)
  have HD : Hid (∀ wx, Calls Tryz.prog 97 #[.int .u32 (X a), .int .u32 (X b.toNat), .bool true] wx fun e w' => e = .returned (.tuple #[.int .u32 0, .int .u32 0, .bool false]) ∧ wx = w') := by
    refine Lib.hid ?_
    rw [hz]
    exact fun wx => divOf_0 (X a) true wx
  clear hz b0 b1
  go_enter Tryz.func58, Tryz.ntmps58
  go_wp2_with fail
  (with_reducible refine (HK.out _).mono ?_)
  rintro e w1 ⟨rfl, rfl⟩
  go_wp2_with fail
  (with_reducible refine (HD.out _).mono ?_)
  rintro e w1 ⟨rfl, rfl⟩
  go_wp2
  exact bodyPost_ret (v := resA (X d) 0 false false) (by simp [results, Tryz.results58, go_sem]) rfl ⟨rfl, below3 _ _ _ _⟩
theorem res_quo_some (d a : Nat) (b imm : Int) (n : Nat) (hd : d < 64) (ha : a < 64) (hb0 : 0 ≤ b) (hb : b < 64) (hXr : ∀ k, Reg32 (X k)) (hz : ¬ X b.toNat = 0) (w : World) :
    Calls Tryz.prog 58 #[.agg xs, .pointer (some ⟨r, 0, none⟩), opA ⟨#[113, 117, 111]⟩ d a b imm n] w fun e w' => e = .returned (resA ((wrap32 (X a)).tdiv (wrap32 (X b.toNat)) % 4294967296) 0 false false) ∧ Below w.heap.size w w' := by
  have hxa := hX a ha
  have hxd := hX d hd
  have hbn : b.toNat < 64 := by omega
  have hxb := hX b.toNat hbn
  obtain ⟨a0, a1⟩ := hXr a
  obtain ⟨b0, b1⟩ := hXr b.toNat
  have HK := Lib.hid (fun wx => isDiv_quo wx)
  have HD := Lib.hid (fun wx => divOf_s (X a) (X b.toNat) a0 a1 (by omega) b1 wx)
  generalize ((wrap32 (X a)).tdiv (wrap32 (X b.toNat)) % 4294967296) = vv at *
  obtain ⟨v2, hv2⟩ : ∃ v2, ((wrap32 (X a)).tmod (wrap32 (X b.toNat)) % 4294967296) = v2 := ⟨_, rfl⟩
  rw [hv2] at HD
  clear hv2 hz
  have HFW : Hid (Four (W3 w xs ⟨#[113, 117, 111]⟩ d a b imm n) (w.heap.size + 1 + 1) 139 (.int .u32 0) (.int .u32 0) (.bool false) (.bool false)) := by
    refine Lib.hid ?_
    have := Four.new ((w.alloc (.cells xs 106)).alloc (.cells #[.string ⟨#[113, 117, 111]⟩, .int .i64 (d : Int), .int .i64 (a : Int), .int .i64 b, .int .u32 imm, .int .i64 (n : Int)] 86)) (.int .u32 0) (.int .u32 0) (.bool false) (.bool false) 139
    have e : ((w.alloc (.cells xs 106)).alloc (.cells #[.string ⟨#[113, 117, 111]⟩, .int .i64 (d : Int), .int .i64 (a : Int), .int .i64 b, .int .u32 imm, .int .i64 (n : Int)] 86)).heap.size = w.heap.size + 1 + 1 := by simp
    rw [e] at this
    exact this
  have HKC : Hid ((W3 w xs ⟨#[113, 117, 111]⟩ d a b imm n).cell? ⟨w.heap.size + 1, 0, none⟩ = some (.string ⟨#[113, 117, 111]⟩)) := by
    refine Lib.hid ?_
    have h1 := heap_alloc_new (w.alloc (.cells xs 106)) (.cells #[.string ⟨#[113, 117, 111]⟩, .int .i64 (d : Int), .int .i64 (a : Int), .int .i64 b, .int .u32 imm, .int .i64 (n : Int)] 86)
    have e : (w.alloc (.cells xs 106)).heap.size = w.heap.size + 1 := by simp
    rw [e] at h1
    have h2 := (((Below.refl ((w.alloc (.cells xs 106)).alloc (.cells #[.string ⟨#[113, 117, 111]⟩, .int .i64 (d : Int), .int .i64 (a : Int), .int .i64 b, .int .u32 imm, .int .i64 (n : Int)] 86)).heap.size ((w.alloc (.cells xs 106)).alloc (.cells #[.string ⟨#[113, 117, 111]⟩, .int .i64 (d : Int), .int .i64 (a : Int), .int .i64 b, .int .u32 imm, .int .i64 (n : Int)] 86))).alloc (Nat.le_refl _) (.cells #[.int .u32 0, .int .u32 0, .bool false, .bool false] 139)).block (w.heap.size + 1) (by simp)).trans h1
    exact cell_of_block h2
  have HBW : Hid (Below w.heap.size w (W3 w xs ⟨#[113, 117, 111]⟩ d a b imm n)) := Lib.hid (below3 w _ _ _)
  have HSZ : Hid (w.heap.size + 1 + 1 < (W3 w xs ⟨#[113, 117, 111]⟩ d a b imm n).heap.size) := Lib.hid (by simp)
  go_enter Tryz.func58, Tryz.ntmps58
  go_wp2_with fail
  (with_reducible refine (HK.out _).mono ?_)
  rintro e w1 ⟨rfl, rfl⟩
  go_wp2_with fail
  (with_reducible refine (HD.out _).mono ?_)
  rintro e w4 ⟨rfl, hb4⟩
  change Below (W3 w xs ⟨#[113, 117, 111]⟩ d a b imm n).heap.size (W3 w xs ⟨#[113, 117, 111]⟩ d a b imm n) w4 at hb4
  have HF4 : Hid (Four w4 (w.heap.size + 1 + 1) 139 (.int .u32 0) (.int .u32 0) (.bool false) (.bool false)) := Lib.hid ((hb4.block _ HSZ.out).trans HFW.out)
  have hkc : w4.cell? ⟨w.heap.size + 1, 0, none⟩ = some (.string ⟨#[113, 117, 111]⟩) := (hb4.cell (Nat.lt_trans (Nat.lt_succ_self _) HSZ.out)).trans HKC.out
  have HB4 : Hid (Below w.heap.size w w4) := Lib.hid (HBW.out.trans (hb4.mono (Nat.le_of_lt (Nat.lt_of_le_of_lt (show w.heap.size ≤ w.heap.size + 1 + 1 by omega) HSZ.out))))
  clear hb4 HKC HFW HBW HSZ
  obtain ⟨k0, k1, k2, k3, f0, f1, f2, f3⟩ := Four.cells HF4.out
  go_wp2
  change bodyPost _ _ _ _ _ (fill4 w4 (w.heap.size + 1 + 1) (.int .u32 vv) (.int .u32 0) (.bool false) (.bool false))
  have HF5 := Four.fill HF4.out (.int .u32 vv) (.int .u32 0) (.bool false) (.bool false)
  have HB5 := Lib.hid (below_fill4 HB4.out (b := w.heap.size + 1 + 1) (by omega) (.int .u32 vv) (.int .u32 0) (.bool false) (.bool false))
  clear k0 k1 k2 k3 f0 f1 f2 f3
  generalize fill4 w4 (w.heap.size + 1 + 1) (.int .u32 vv) (.int .u32 0) (.bool false) (.bool false) = W5 at *
  obtain ⟨k0, k1, k2, k3, _⟩ := Four.cells HF5
  exact bodyPost_ret (v := resA vv 0 false false) (by simp [results, Tryz.results58, go_sem, k0, k1, k2, k3]) rfl ⟨rfl, HB5.out⟩
theorem res_rem_zero (d a : Nat) (b imm : Int) (n : Nat) (hd : d < 64) (ha : a < 64) (hb0 : 0 ≤ b) (hb : b < 64) (hXr : ∀ k, Reg32 (X k)) (hz : X b.toNat = 0) (w : World) :
    Calls Tryz.prog 58 #[.agg xs, .pointer (some ⟨r, 0, none⟩), opA ⟨#[114, 101, 109]⟩ d a b imm n] w fun e w' => e = .returned (resA (X d) 0 false false) ∧ Below w.heap.size w w' := by
  have hxa := hX a ha
  have hxd := hX d hd
  have hbn : b.toNat < 64 := by omega
  have hxb := hX b.toNat hbn
  obtain ⟨a0, a1⟩ := hXr a
  obtain ⟨b0, b1⟩ := hXr b.toNat
  have HK := Lib.hid (fun wx => isDiv_rem wx)
  have HD : Hid (∀ wx, Calls Tryz.prog 97 #[.int .u32 (X a), .int .u32 (X b.toNat), .bool true] wx fun e w' => e = .returned (.tuple #[.int .u32 0, .int .u32 0, .bool false]) ∧ wx = w') := by
    refine Lib.hid ?_
    rw [hz]
    exact fun wx => divOf_0 (X a) true wx
  clear hz b0 b1
  go_enter Tryz.func58, Tryz.ntmps58
  go_wp2_with fail
  (with_reducible refine (HK.out _).mono ?_)
  rintro e w1 ⟨rfl, rfl⟩
  go_wp2_with fail
  (with_reducible refine (HD.out _).mono ?_)
  rintro e w1 ⟨rfl, rfl⟩
  go_wp2
  exact bodyPost_ret (v := resA (X d) 0 false false) (by simp [results, Tryz.results58, go_sem]) rfl ⟨rfl, below3 _ _ _ _⟩
theorem res_rem_some (d a : Nat) (b imm : Int) (n : Nat) (hd : d < 64) (ha : a < 64) (hb0 : 0 ≤ b) (hb : b < 64) (hXr : ∀ k, Reg32 (X k)) (hz : ¬ X b.toNat = 0) (w : World) :
    Calls Tryz.prog 58 #[.agg xs, .pointer (some ⟨r, 0, none⟩), opA ⟨#[114, 101, 109]⟩ d a b imm n] w fun e w' => e = .returned (resA ((wrap32 (X a)).tmod (wrap32 (X b.toNat)) % 4294967296) 0 false false) ∧ Below w.heap.size w w' := by
  have hxa := hX a ha
  have hxd := hX d hd
  have hbn : b.toNat < 64 := by omega
  have hxb := hX b.toNat hbn
  obtain ⟨a0, a1⟩ := hXr a
  obtain ⟨b0, b1⟩ := hXr b.toNat
  have HK := Lib.hid (fun wx => isDiv_rem wx)
  have HD := Lib.hid (fun wx => divOf_s (X a) (X b.toNat) a0 a1 (by omega) b1 wx)
  generalize ((wrap32 (X a)).tmod (wrap32 (X b.toNat)) % 4294967296) = vv at *
  obtain ⟨v2, hv2⟩ : ∃ v2, ((wrap32 (X a)).tdiv (wrap32 (X b.toNat)) % 4294967296) = v2 := ⟨_, rfl⟩
  rw [hv2] at HD
  clear hv2 hz
  have HFW : Hid (Four (W3 w xs ⟨#[114, 101, 109]⟩ d a b imm n) (w.heap.size + 1 + 1) 139 (.int .u32 0) (.int .u32 0) (.bool false) (.bool false)) := by
    refine Lib.hid ?_
    have := Four.new ((w.alloc (.cells xs 106)).alloc (.cells #[.string ⟨#[114, 101, 109]⟩, .int .i64 (d : Int), .int .i64 (a : Int), .int .i64 b, .int .u32 imm, .int .i64 (n : Int)] 86)) (.int .u32 0) (.int .u32 0) (.bool false) (.bool false) 139
    have e : ((w.alloc (.cells xs 106)).alloc (.cells #[.string ⟨#[114, 101, 109]⟩, .int .i64 (d : Int), .int .i64 (a : Int), .int .i64 b, .int .u32 imm, .int .i64 (n : Int)] 86)).heap.size = w.heap.size + 1 + 1 := by simp
    rw [e] at this
    exact this
  have HKC : Hid ((W3 w xs ⟨#[114, 101, 109]⟩ d a b imm n).cell? ⟨w.heap.size + 1, 0, none⟩ = some (.string ⟨#[114, 101, 109]⟩)) := by
    refine Lib.hid ?_
    have h1 := heap_alloc_new (w.alloc (.cells xs 106)) (.cells #[.string ⟨#[114, 101, 109]⟩, .int .i64 (d : Int), .int .i64 (a : Int), .int .i64 b, .int .u32 imm, .int .i64 (n : Int)] 86)
    have e : (w.alloc (.cells xs 106)).heap.size = w.heap.size + 1 := by simp
    rw [e] at h1
    have h2 := (((Below.refl ((w.alloc (.cells xs 106)).alloc (.cells #[.string ⟨#[114, 101, 109]⟩, .int .i64 (d : Int), .int .i64 (a : Int), .int .i64 b, .int .u32 imm, .int .i64 (n : Int)] 86)).heap.size ((w.alloc (.cells xs 106)).alloc (.cells #[.string ⟨#[114, 101, 109]⟩, .int .i64 (d : Int), .int .i64 (a : Int), .int .i64 b, .int .u32 imm, .int .i64 (n : Int)] 86))).alloc (Nat.le_refl _) (.cells #[.int .u32 0, .int .u32 0, .bool false, .bool false] 139)).block (w.heap.size + 1) (by simp)).trans h1
    exact cell_of_block h2
  have HBW : Hid (Below w.heap.size w (W3 w xs ⟨#[114, 101, 109]⟩ d a b imm n)) := Lib.hid (below3 w _ _ _)
  have HSZ : Hid (w.heap.size + 1 + 1 < (W3 w xs ⟨#[114, 101, 109]⟩ d a b imm n).heap.size) := Lib.hid (by simp)
  go_enter Tryz.func58, Tryz.ntmps58
  go_wp2_with fail
  (with_reducible refine (HK.out _).mono ?_)
  rintro e w1 ⟨rfl, rfl⟩
  go_wp2_with fail
  (with_reducible refine (HD.out _).mono ?_)
  rintro e w4 ⟨rfl, hb4⟩
  change Below (W3 w xs ⟨#[114, 101, 109]⟩ d a b imm n).heap.size (W3 w xs ⟨#[114, 101, 109]⟩ d a b imm n) w4 at hb4
  have HF4 : Hid (Four w4 (w.heap.size + 1 + 1) 139 (.int .u32 0) (.int .u32 0) (.bool false) (.bool false)) := Lib.hid ((hb4.block _ HSZ.out).trans HFW.out)
  have hkc : w4.cell? ⟨w.heap.size + 1, 0, none⟩ = some (.string ⟨#[114, 101, 109]⟩) := (hb4.cell (Nat.lt_trans (Nat.lt_succ_self _) HSZ.out)).trans HKC.out
  have HB4 : Hid (Below w.heap.size w w4) := Lib.hid (HBW.out.trans (hb4.mono (Nat.le_of_lt (Nat.lt_of_le_of_lt (show w.heap.size ≤ w.heap.size + 1 + 1 by omega) HSZ.out))))
  clear hb4 HKC HFW HBW HSZ
  obtain ⟨k0, k1, k2, k3, f0, f1, f2, f3⟩ := Four.cells HF4.out
  go_wp2
  change bodyPost _ _ _ _ _ (fill4 w4 (w.heap.size + 1 + 1) (.int .u32 vv) (.int .u32 0) (.bool false) (.bool false))
  have HF5 := Four.fill HF4.out (.int .u32 vv) (.int .u32 0) (.bool false) (.bool false)
  have HB5 := Lib.hid (below_fill4 HB4.out (b := w.heap.size + 1 + 1) (by omega) (.int .u32 vv) (.int .u32 0) (.bool false) (.bool false))
  clear k0 k1 k2 k3 f0 f1 f2 f3
  generalize fill4 w4 (w.heap.size + 1 + 1) (.int .u32 vv) (.int .u32 0) (.bool false) (.bool false) = W5 at *
  obtain ⟨k0, k1, k2, k3, _⟩ := Four.cells HF5
  exact bodyPost_ret (v := resA vv 0 false false) (by simp [results, Tryz.results58, go_sem, k0, k1, k2, k3]) rfl ⟨rfl, HB5.out⟩
theorem res_quou_zero (d a : Nat) (b imm : Int) (n : Nat) (hd : d < 64) (ha : a < 64) (hb0 : 0 ≤ b) (hb : b < 64) (hXr : ∀ k, Reg32 (X k)) (hz : X b.toNat = 0) (w : World) :
    Calls Tryz.prog 58 #[.agg xs, .pointer (some ⟨r, 0, none⟩), opA ⟨#[113, 117, 111, 117]⟩ d a b imm n] w fun e w' => e = .returned (resA (X d) 0 false false) ∧ Below w.heap.size w w' := by
  have hxa := hX a ha
  have hxd := hX d hd
  have hbn : b.toNat < 64 := by omega
  have hxb := hX b.toNat hbn
  obtain ⟨a0, a1⟩ := hXr a
  obtain ⟨b0, b1⟩ := hXr b.toNat
  have HK := Lib.hid (fun wx => isDiv_quou wx)
  have HD : Hid (∀ wx, Calls Tryz.prog 97 #[.int .u32 (X a), .int .u32 (X b.toNat), .bool false] wx fun e w' => e = .returned (.tuple #[.int .u32 0, .int .u32 0, .bool false]) ∧ wx = w') := by
    refine Lib.hid ?_
    rw [hz]
    exact fun wx => divOf_0 (X a) false wx
  clear hz b0 b1
  go_enter Tryz.func58, Tryz.ntmps58
  go_wp2_with fail
  (with_reducible refine (HK.out _).mono ?_)
  rintro e w1 ⟨rfl, rfl⟩
  go_wp2_with fail
  (with_reducible refine (HD.out _).mono ?_)
  rintro e w1 ⟨rfl, rfl⟩
  go_wp2
  exact bodyPost_ret (v := resA (X d) 0 false false) (by simp [results, Tryz.results58, go_sem]) rfl ⟨rfl, below3 _ _ _ _⟩
theorem res_quou_some (d a : Nat) (b imm : Int) (n : Nat) (hd : d < 64) (ha : a < 64) (hb0 : 0 ≤ b) (hb : b < 64) (hXr : ∀ k, Reg32 (X k)) (hz : ¬ X b.toNat = 0) (w : World) :
    Calls Tryz.prog 58 #[.agg xs, .pointer (some ⟨r, 0, none⟩), opA ⟨#[113, 117, 111, 117]⟩ d a b imm n] w fun e w' => e = .returned (resA (X a / X b.toNat) 0 false false) ∧ Below w.heap.size w w' := by
  have hxa := hX a ha
  have hxd := hX d hd
  have hbn : b.toNat < 64 := by omega
  have hxb := hX b.toNat hbn
  obtain ⟨a0, a1⟩ := hXr a
  obtain ⟨b0, b1⟩ := hXr b.toNat
  have HK := Lib.hid (fun wx => isDiv_quou wx)
  have HD := Lib.hid (fun wx => divOf_u (X a) (X b.toNat) a0 a1 (by omega) b1 wx)
  generalize (X a / X b.toNat) = vv at *
  obtain ⟨v2, hv2⟩ : ∃ v2, (X a % X b.toNat) = v2 := ⟨_, rfl⟩
  rw [hv2] at HD
  clear hv2 hz
  have HFW : Hid (Four (W3 w xs ⟨#[113, 117, 111, 117]⟩ d a b imm n) (w.heap.size + 1 + 1) 139 (.int .u32 0) (.int .u32 0) (.bool false) (.bool false)) := by
    refine Lib.hid ?_
    have := Four.new ((w.alloc (.cells xs 106)).alloc (.cells #[.string ⟨#[113, 117, 111, 117]⟩, .int .i64 (d : Int), .int .i64 (a : Int), .int .i64 b, .int .u32 imm, .int .i64 (n : Int)] 86)) (.int .u32 0) (.int .u32 0) (.bool false) (.bool false) 139
    have e : ((w.alloc (.cells xs 106)).alloc (.cells #[.string ⟨#[113, 117, 111, 117]⟩, .int .i64 (d : Int), .int .i64 (a : Int), .int .i64 b, .int .u32 imm, .int .i64 (n : Int)] 86)).heap.size = w.heap.size + 1 + 1 := by simp
    rw [e] at this
    exact this
  have HKC : Hid ((W3 w xs ⟨#[113, 117, 111, 117]⟩ d a b imm n).cell? ⟨w.heap.size + 1, 0, none⟩ = some (.string ⟨#[113, 117, 111, 117]⟩)) := by
    refine Lib.hid ?_
    have h1 := heap_alloc_new (w.alloc (.cells xs 106)) (.cells #[.string ⟨#[113, 117, 111, 117]⟩, .int .i64 (d : Int), .int .i64 (a : Int), .int .i64 b, .int .u32 imm, .int .i64 (n : Int)] 86)
    have e : (w.alloc (.cells xs 106)).heap.size = w.heap.size + 1 := by simp
    rw [e] at h1
    have h2 := (((Below.refl ((w.alloc (.cells xs 106)).alloc (.cells #[.string ⟨#[113, 117, 111, 117]⟩, .int .i64 (d : Int), .int .i64 (a : Int), .int .i64 b, .int .u32 imm, .int .i64 (n : Int)] 86)).heap.size ((w.alloc (.cells xs 106)).alloc (.cells #[.string ⟨#[113, 117, 111, 117]⟩, .int .i64 (d : Int), .int .i64 (a : Int), .int .i64 b, .int .u32 imm, .int .i64 (n : Int)] 86))).alloc (Nat.le_refl _) (.cells #[.int .u32 0, .int .u32 0, .bool false, .bool false] 139)).block (w.heap.size + 1) (by simp)).trans h1
    exact cell_of_block h2
  have HBW : Hid (Below w.heap.size w (W3 w xs ⟨#[113, 117, 111, 117]⟩ d a b imm n)) := Lib.hid (below3 w _ _ _)
  have HSZ : Hid (w.heap.size + 1 + 1 < (W3 w xs ⟨#[113, 117, 111, 117]⟩ d a b imm n).heap.size) := Lib.hid (by simp)
  go_enter Tryz.func58, Tryz.ntmps58
  go_wp2_with fail
  (with_reducible refine (HK.out _).mono ?_)
  rintro e w1 ⟨rfl, rfl⟩
  go_wp2_with fail
  (with_reducible refine (HD.out _).mono ?_)
  rintro e w4 ⟨rfl, hb4⟩
  change Below (W3 w xs ⟨#[113, 117, 111, 117]⟩ d a b imm n).heap.size (W3 w xs ⟨#[113, 117, 111, 117]⟩ d a b imm n) w4 at hb4
  have HF4 : Hid (Four w4 (w.heap.size + 1 + 1) 139 (.int .u32 0) (.int .u32 0) (.bool false) (.bool false)) := Lib.hid ((hb4.block _ HSZ.out).trans HFW.out)
  have hkc : w4.cell? ⟨w.heap.size + 1, 0, none⟩ = some (.string ⟨#[113, 117, 111, 117]⟩) := (hb4.cell (Nat.lt_trans (Nat.lt_succ_self _) HSZ.out)).trans HKC.out
  have HB4 : Hid (Below w.heap.size w w4) := Lib.hid (HBW.out.trans (hb4.mono (Nat.le_of_lt (Nat.lt_of_le_of_lt (show w.heap.size ≤ w.heap.size + 1 + 1 by omega) HSZ.out))))
  clear hb4 HKC HFW HBW HSZ
  obtain ⟨k0, k1, k2, k3, f0, f1, f2, f3⟩ := Four.cells HF4.out
  go_wp2
  change bodyPost _ _ _ _ _ (fill4 w4 (w.heap.size + 1 + 1) (.int .u32 vv) (.int .u32 0) (.bool false) (.bool false))
  have HF5 := Four.fill HF4.out (.int .u32 vv) (.int .u32 0) (.bool false) (.bool false)
  have HB5 := Lib.hid (below_fill4 HB4.out (b := w.heap.size + 1 + 1) (by omega) (.int .u32 vv) (.int .u32 0) (.bool false) (.bool false))
  clear k0 k1 k2 k3 f0 f1 f2 f3
  generalize fill4 w4 (w.heap.size + 1 + 1) (.int .u32 vv) (.int .u32 0) (.bool false) (.bool false) = W5 at *
  obtain ⟨k0, k1, k2, k3, _⟩ := Four.cells HF5
  exact bodyPost_ret (v := resA vv 0 false false) (by simp [results, Tryz.results58, go_sem, k0, k1, k2, k3]) rfl ⟨rfl, HB5.out⟩
theorem res_remu_zero (d a : Nat) (b imm : Int) (n : Nat) (hd : d < 64) (ha : a < 64) (hb0 : 0 ≤ b) (hb : b < 64) (hXr : ∀ k, Reg32 (X k)) (hz : X b.toNat = 0) (w : World) :
    Calls Tryz.prog 58 #[.agg xs, .pointer (some ⟨r, 0, none⟩), opA ⟨#[114, 101, 109, 117]⟩ d a b imm n] w fun e w' => e = .returned (resA (X d) 0 false false) ∧ Below w.heap.size w w' := by
  have hxa := hX a ha
  have hxd := hX d hd
  have hbn : b.toNat < 64 := by omega
  have hxb := hX b.toNat hbn
  obtain ⟨a0, a1⟩ := hXr a
  obtain ⟨b0, b1⟩ := hXr b.toNat
  have HK := Lib.hid (fun wx => isDiv_remu wx)
  have HD : Hid (∀ wx, Calls Tryz.prog 97 #[.int .u32 (X a), .int .u32 (X b.toNat), .bool false] wx fun e w' => e = .returned (.tuple #[.int .u32 0, .int .u32 0, .bool false]) ∧ wx = w') := by
    refine Lib.hid ?_
    rw [hz]
    exact fun wx => divOf_0 (X a) false wx
  clear hz b0 b1
  go_enter Tryz.func58, Tryz.ntmps58
  go_wp2_with fail
  (with_reducible refine (HK.out _).mono ?_)
  rintro e w1 ⟨rfl, rfl⟩
  go_wp2_with fail
  (with_reducible refine (HD.out _).mono ?_)
  rintro e w1 ⟨rfl, rfl⟩
  go_wp2
  exact bodyPost_ret (v := resA (X d) 0 false false) (by simp [results, Tryz.results58, go_sem]) rfl ⟨rfl, below3 _ _ _ _⟩
theorem res_remu_some (d a : Nat) (b imm : Int) (n : Nat) (hd : d < 64) (ha : a < 64) (hb0 : 0 ≤ b) (hb : b < 64) (hXr : ∀ k, Reg32 (X k)) (hz : ¬ X b.toNat = 0) (w : World) :
    Calls Tryz.prog 58 #[.agg xs, .pointer (some ⟨r, 0, none⟩), opA ⟨#[114, 101, 109, 117]⟩ d a b imm n] w fun e w' => e = .returned (resA (X a % X b.toNat) 0 false false) ∧ Below w.heap.size w w' := by
  have hxa := hX a ha
  have hxd := hX d hd
  have hbn : b.toNat < 64 := by omega
  have hxb := hX b.toNat hbn
  obtain ⟨a0, a1⟩ := hXr a
  obtain ⟨b0, b1⟩ := hXr b.toNat
  have HK := Lib.hid (fun wx => isDiv_remu wx)
  have HD := Lib.hid (fun wx => divOf_u (X a) (X b.toNat) a0 a1 (by omega) b1 wx)
  generalize (X a % X b.toNat) = vv at *
  obtain ⟨v2, hv2⟩ : ∃ v2, (X a / X b.toNat) = v2 := ⟨_, rfl⟩
  rw [hv2] at HD
  clear hv2 hz
  have HFW : Hid (Four (W3 w xs ⟨#[114, 101, 109, 117]⟩ d a b imm n) (w.heap.size + 1 + 1) 139 (.int .u32 0) (.int .u32 0) (.bool false) (.bool false)) := by
    refine Lib.hid ?_
    have := Four.new ((w.alloc (.cells xs 106)).alloc (.cells #[.string ⟨#[114, 101, 109, 117]⟩, .int .i64 (d : Int), .int .i64 (a : Int), .int .i64 b, .int .u32 imm, .int .i64 (n : Int)] 86)) (.int .u32 0) (.int .u32 0) (.bool false) (.bool false) 139
    have e : ((w.alloc (.cells xs 106)).alloc (.cells #[.string ⟨#[114, 101, 109, 117]⟩, .int .i64 (d : Int), .int .i64 (a : Int), .int .i64 b, .int .u32 imm, .int .i64 (n : Int)] 86)).heap.size = w.heap.size + 1 + 1 := by simp
    rw [e] at this
    exact this
  have HKC : Hid ((W3 w xs ⟨#[114, 101, 109, 117]⟩ d a b imm n).cell? ⟨w.heap.size + 1, 0, none⟩ = some (.string ⟨#[114, 101, 109, 117]⟩)) := by
    refine Lib.hid ?_
    have h1 := heap_alloc_new (w.alloc (.cells xs 106)) (.cells #[.string ⟨#[114, 101, 109, 117]⟩, .int .i64 (d : Int), .int .i64 (a : Int), .int .i64 b, .int .u32 imm, .int .i64 (n : Int)] 86)
    have e : (w.alloc (.cells xs 106)).heap.size = w.heap.size + 1 := by simp
    rw [e] at h1
    have h2 := (((Below.refl ((w.alloc (.cells xs 106)).alloc (.cells #[.string ⟨#[114, 101, 109, 117]⟩, .int .i64 (d : Int), .int .i64 (a : Int), .int .i64 b, .int .u32 imm, .int .i64 (n : Int)] 86)).heap.size ((w.alloc (.cells xs 106)).alloc (.cells #[.string ⟨#[114, 101, 109, 117]⟩, .int .i64 (d : Int), .int .i64 (a : Int), .int .i64 b, .int .u32 imm, .int .i64 (n : Int)] 86))).alloc (Nat.le_refl _) (.cells #[.int .u32 0, .int .u32 0, .bool false, .bool false] 139)).block (w.heap.size + 1) (by simp)).trans h1
    exact cell_of_block h2
  have HBW : Hid (Below w.heap.size w (W3 w xs ⟨#[114, 101, 109, 117]⟩ d a b imm n)) := Lib.hid (below3 w _ _ _)
  have HSZ : Hid (w.heap.size + 1 + 1 < (W3 w xs ⟨#[114, 101, 109, 117]⟩ d a b imm n).heap.size) := Lib.hid (by simp)
  go_enter Tryz.func58, Tryz.ntmps58
  go_wp2_with fail
  (with_reducible refine (HK.out _).mono ?_)
  rintro e w1 ⟨rfl, rfl⟩
  go_wp2_with fail
  (with_reducible refine (HD.out _).mono ?_)
  rintro e w4 ⟨rfl, hb4⟩
  change Below (W3 w xs ⟨#[114, 101, 109, 117]⟩ d a b imm n).heap.size (W3 w xs ⟨#[114, 101, 109, 117]⟩ d a b imm n) w4 at hb4
  have HF4 : Hid (Four w4 (w.heap.size + 1 + 1) 139 (.int .u32 0) (.int .u32 0) (.bool false) (.bool false)) := Lib.hid ((hb4.block _ HSZ.out).trans HFW.out)
  have hkc : w4.cell? ⟨w.heap.size + 1, 0, none⟩ = some (.string ⟨#[114, 101, 109, 117]⟩) := (hb4.cell (Nat.lt_trans (Nat.lt_succ_self _) HSZ.out)).trans HKC.out
  have HB4 : Hid (Below w.heap.size w w4) := Lib.hid (HBW.out.trans (hb4.mono (Nat.le_of_lt (Nat.lt_of_le_of_lt (show w.heap.size ≤ w.heap.size + 1 + 1 by omega) HSZ.out))))
  clear hb4 HKC HFW HBW HSZ
  obtain ⟨k0, k1, k2, k3, f0, f1, f2, f3⟩ := Four.cells HF4.out
  go_wp2
  change bodyPost _ _ _ _ _ (fill4 w4 (w.heap.size + 1 + 1) (.int .u32 vv) (.int .u32 0) (.bool false) (.bool false))
  have HF5 := Four.fill HF4.out (.int .u32 vv) (.int .u32 0) (.bool false) (.bool false)
  have HB5 := Lib.hid (below_fill4 HB4.out (b := w.heap.size + 1 + 1) (by omega) (.int .u32 vv) (.int .u32 0) (.bool false) (.bool false))
  clear k0 k1 k2 k3 f0 f1 f2 f3
  generalize fill4 w4 (w.heap.size + 1 + 1) (.int .u32 vv) (.int .u32 0) (.bool false) (.bool false) = W5 at *
  obtain ⟨k0, k1, k2, k3, _⟩ := Four.cells HF5
  exact bodyPost_ret (v := resA vv 0 false false) (by simp [results, Tryz.results58, go_sem, k0, k1, k2, k3]) rfl ⟨rfl, HB5.out⟩
end
end Go.Proofs.YtadoaldnjnkhgaaGreatDoor
