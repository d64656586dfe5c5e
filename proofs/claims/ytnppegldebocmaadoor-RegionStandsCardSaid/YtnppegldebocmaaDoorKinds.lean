/- The walks of changelinglaw1.coding and CodeKinds: they answer true. Conditions: as each theorem states. -/
import Derived.Test.YtnppegldebocmaaDoorRound
import Derived.Test.YtnppegldebocmaaDoorEncode
import Derived.Test.YtnppegldebocmaaDoorWordR
namespace Go.Proofs.YtnppegldebocmaaDoor
open Go.RowKit
theorem dec_0 : decZ 2234400 = ⟨19, 1, 2, 3, 0⟩ := by kernel_rfl
theorem encBad_0 : encBad ⟨19, 1, 2, 3, 0⟩ = false := by kernel_rfl
theorem encL_0 : encL ⟨19, 1, 2, 3, 0⟩ [83, 84, 68] = 2234400 := by kernel_rfl
theorem enc_0 (vK vB : Value) (w : World) (hK : w.cell? ⟨5, 0, none⟩ = some vK) (hB : w.cell? ⟨1, 0, none⟩ = some vB) :
    Calls Tryd.prog 17 #[.agg #[.int .i64 19, .int .i64 1, .int .i64 2, .int .i64 3, .int .u32 0]] w fun e w' => e = .returned (.tuple #[.int .u32 2234400, .nilIface]) ∧ Below w.heap.size w w' := by
  have t := encode_some ⟨19, 1, 2, 3, 0⟩ ⟨by decide, by decide, by decide, by decide, by decide, by decide, by decide, by decide, by decide, by decide⟩ (by kernel_rfl) vK vB w hK hB
  rw [encRes_good encBad_0] at t
  have e : encL ⟨19, 1, 2, 3, 0⟩ (fieldsB (19 : Int).toNat) = 2234400 := encL_0
  rw [e] at t
  exact t
theorem dec_0_calls (w : World) : Calls Tryd.prog 9 #[.int .u32 2234400] w fun e w' => e = .returned (.agg #[.int .i64 19, .int .i64 1, .int .i64 2, .int .i64 3, .int .u32 0]) ∧ Below w.heap.size w w' := by
  have t := decode_any 2234400 (by decide) (by decide) w
  rw [dec_0] at t
  exact t
set_option maxHeartbeats 400000 in
theorem coding_ok (vK vB : Value) (w : World) (hK : w.cell? ⟨5, 0, none⟩ = some vK) (hB : w.cell? ⟨1, 0, none⟩ = some vB) :
    Calls Tryd.prog 8 #[] w fun e w' => e = .returned (.bool true) ∧ Below w.heap.size w w' := by
  have hltK := World.block_lt_of_cell? w _ hK
  have hltB := World.block_lt_of_cell? w _ hB
  go_enter Tryd.func8, Tryd.ntmps8
  go_wp2_with fail
  refine (dec_0_calls _).mono ?_
  rintro e w1 ⟨rfl, hb1⟩
  have hK1 := (hb1.cell hltK).trans hK
  have hB1 := (hb1.cell hltB).trans hB
  clear hK hB
  go_wp2_with fail
  have hB2 : Below w.heap.size w (w1.alloc (.cells #[.int .i64 19, .int .i64 1, .int .i64 2, .int .i64 3, .int .u32 0] 25)) := hb1.alloc hb1.size _
  have hF := Five.new w1 (.int .i64 19) (.int .i64 1) (.int .i64 2) (.int .i64 3) (.int .u32 0) 25
  have hK2 : (w1.alloc (.cells #[.int .i64 19, .int .i64 1, .int .i64 2, .int .i64 3, .int .u32 0] 25)).cell? ⟨5, 0, none⟩ = some vK := by
    rw [World.cell?_alloc_lt _ _ ⟨5, 0, none⟩ (World.block_lt_of_cell? w1 _ hK1)]; exact hK1
  have hB3 : (w1.alloc (.cells #[.int .i64 19, .int .i64 1, .int .i64 2, .int .i64 3, .int .u32 0] 25)).cell? ⟨1, 0, none⟩ = some vB := by
    rw [World.cell?_alloc_lt _ _ ⟨1, 0, none⟩ (World.block_lt_of_cell? w1 _ hB1)]; exact hB1
  clear hK1 hB1 hb1
  generalize w1.alloc (.cells #[.int .i64 19, .int .i64 1, .int .i64 2, .int .i64 3, .int .u32 0] 25) = w2 at *
  generalize w1.heap.size = b1 at *
  refine (enc_0 vK vB _ hK2 hB3).mono ?_
  rintro e w3 ⟨rfl, hb3⟩
  have hF3 := hF.below hb3 hF.lt
  have hB4 := hB2.trans (hb3.mono hB2.size)
  obtain ⟨c0, c1, c2, c3, c4⟩ := hF3.cells
  clear hK2 hB3 hF hF3 hb3 hB2
  go_wp2_with fail
  go_ret
  exact ⟨rfl, hB4⟩
theorem kindOf_cases (n : Nat) (h : n < 54) : kindOfB (n : Int) = [98, 114, 97, 110, 99, 104] ∨ kindOfB (n : Int) = [108, 111, 97, 100] ∨ kindOfB (n : Int) = [115, 116, 111, 114, 101] ∨ kindOfB (n : Int) = [116, 114, 97, 112] ∨ kindOfB (n : Int) = [115, 117, 109] := by
  have all : ∀ n : Nat, n < 54 → (kindOfB (n : Int) = [98, 114, 97, 110, 99, 104] ∨ kindOfB (n : Int) = [108, 111, 97, 100] ∨ kindOfB (n : Int) = [115, 116, 111, 114, 101] ∨ kindOfB (n : Int) = [116, 114, 97, 112] ∨ kindOfB (n : Int) = [115, 117, 109]) := by decide
  exact all n h
theorem decZ_op (x : Int) : ∃ n : Nat, n < 54 ∧ (decZ x).op = (n : Int) := by
  rcases decZ_cases x with e | ⟨k, a, b, c, d⟩
  · exact ⟨0, by decide, by rw [e]; rfl⟩
  · exact ⟨k, b, by rw [d, decAt_op]⟩
theorem shift_one (k : Nat) (hk : k < 32) (w : World) :
    Calls Tryd.prog 11 #[.int .u8 60, .int .u32 1, .int .u32 (k : Int)] w fun e w' => e = .returned (.int .u32 (p2 k)) ∧ w = w' := by
  have t := shift_up 1 k hk w
  have e : 1 * p2 k % 4294967296 = p2 k := by
    have := p2_pos k
    have := p2_31 (k := k) (by omega)
    omega
  rw [e] at t
  exact t
theorem part_one (x : Int) (k : Nat) (h0 : 0 ≤ x) (h1 : x < 4294967296) (hk : k < 32) (w : World) :
    Calls Tryd.prog 12 #[.int .u32 x, .int .i64 (k : Int), .int .i64 1] w fun e w' => e = .returned (.int .i64 (x / p2 k % 2)) ∧ w = w' :=
  part_any x k 1 h0 h1 hk (by decide) w
theorem bit_on (x : Int) (k : Nat) (h0 : 0 ≤ x) (h : (x / p2 k % 2 == 1) = true) : 0 ≤ x - p2 k := by
  have hp := p2_pos k
  have h1 := eq_of_beq h
  have h2 : 1 ≤ x / p2 k := by
    have := Int.ediv_nonneg h0 (show 0 ≤ p2 k by omega)
    omega
  have := (Int.le_ediv_iff_mul_le (by omega)).1 h2
  omega
theorem decZ_zero (x : Int) (h : (decZ x).op = 0) : decZ x = ⟨0, 0, 0, 0, 0⟩ := by
  rcases decZ_cases x with e | ⟨k, a, b, c, d⟩
  · exact e
  · rw [d, decAt_op] at h
    omega
theorem dec_apart (x y : Int) (h0 : 0 ≤ x) (h1 : x < 4294967296) (g0 : 0 ≤ y) (g1 : y < 4294967296) (hxy : x ≠ y) (hz : decZ x ≠ ⟨0, 0, 0, 0, 0⟩) : decZ y ≠ decZ x := by
  intro h
  obtain ⟨m, rfl⟩ := Int.eq_ofNat_of_zero_le h0
  obtain ⟨n, rfl⟩ := Int.eq_ofNat_of_zero_le g0
  have e := decZ_inj m n (by omega) (by omega) h.symm hz
  subst e
  exact hxy rfl
/-- The tail of CodeKinds: the second instruction is another one, or the first is none. -/
def Tail (i j : InsN) : Prop := i = ⟨0, 0, 0, 0, 0⟩ ∨ (¬ i.op = 0 ∧ j ≠ i)
theorem tail_of (x y : Int) (h0 : 0 ≤ x) (h1 : x < 4294967296) (g0 : 0 ≤ y) (g1 : y < 4294967296) (hxy : x ≠ y) : Tail (decZ x) (decZ y) := by
  by_cases h : (decZ x).op = 0
  · exact Or.inl (decZ_zero x h)
  · exact Or.inr ⟨h, dec_apart x y h0 h1 g0 g1 hxy (fun e => h (by rw [e]))⟩
set_option maxHeartbeats 1000000 in
theorem kinds_mid (x : Int) (k : Nat) (h0 : 0 ≤ x) (h1 : x < 4294967296) (hk : k < 32) (vK vB : Value) (w : World) (hK : w.cell? ⟨5, 0, none⟩ = some vK) (hB : w.cell? ⟨1, 0, none⟩ = some vB) :
    Calls Tryd.prog 3 #[.int .u32 x, .int .i64 (k : Int)] w fun e w' => e = .returned (.bool true) ∧ Below w.heap.size w w' := by
  go_enter Tryd.func3, Tryd.ntmps3
  go_wp2_with fail
  refine (coding_ok vK vB _ hK hB).mono ?_
  rintro e w1 ⟨rfl, hb1⟩
  clear hK hB
  go_wp2_with fail
  refine (decode_any x h0 h1 _).mono ?_
  rintro e w2 ⟨rfl, hb2⟩
  have hB2 := (hb1.trans (hb2.mono hb1.size)).alloc (by have := hb1.size; have := hb2.size; omega) (.cells #[.int .i64 (decZ x).op, .int .i64 (decZ x).s, .int .i64 (decZ x).t, .int .i64 (decZ x).d, .int .u32 (decZ x).imm] 25)
  have hF := Five.new w2 (.int .i64 (decZ x).op) (.int .i64 (decZ x).s) (.int .i64 (decZ x).t) (.int .i64 (decZ x).d) (.int .u32 (decZ x).imm) 25
  go_wp2_with fail
  generalize w2.alloc (.cells #[.int .i64 (decZ x).op, .int .i64 (decZ x).s, .int .i64 (decZ x).t, .int .i64 (decZ x).d, .int .u32 (decZ x).imm] 25) = w3 at *
  clear hb1 hb2
  refine (kindOf_any _ _).mono ?_
  rintro e w4 ⟨rfl, hb4⟩
  have hF4 := hF.below hb4 hF.lt
  have hB4 := hB2.trans (hb4.mono hB2.size)
  clear hF hB2 hb4
  obtain ⟨n, hn, hop⟩ := decZ_op x
  have HC := kindOf_cases n hn
  rw [← hop] at HC
  clear hop
  obtain ⟨c0, c1, c2, c3, c4⟩ := hF4.cells
  have hp := p2_pos k
  have hp1 := p2_31 (k := k) (by omega)
  rcases HC with h | h | h | h | h
  · rw [h, show bsl [98, 114, 97, 110, 99, 104] = ⟨#[98, 114, 97, 110, 99, 104]⟩ from rfl]
    clear h
    go_wp2_with fail
    refine (shift_one k hk _).mono ?_
    rintro e w' ⟨rfl, rfl⟩
    go_wp2_with fail
    refine (part_one x k h0 h1 hk _).mono ?_
    rintro e w' ⟨rfl, rfl⟩
    by_cases hq : (x / p2 k % 2 == 1) = true
    · have hy := bit_on x k h0 hq
      go_wp2_with fail
      refine (decode_any (x - p2 k) (by omega) (by omega) _).mono ?_
      rintro e w5 ⟨rfl, hb5⟩
      have hB5 := hB4.trans (hb5.mono hB4.size)
      have hF5 := hF4.below hb5 hF4.lt
      clear hB4 hF4 c0 c1 c2 c3 c4 hb5
      obtain ⟨c0, c1, c2, c3, c4⟩ := hF5.cells
      have hlt := hF5.lt
      have hT := tail_of x (x - p2 k) h0 h1 (by omega) (by omega) (by omega)
      generalize decZ (x - p2 k) = j at *
      generalize decZ x = i at *
      rcases hT with rfl | ⟨hop, hne⟩
      · go_wp2_with fail
        go_ret
        exact ⟨rfl, hB5.alloc hB5.size _⟩
      · obtain ⟨io, is, it, id, im⟩ := i
        obtain ⟨jo, js, jt, jd, jm⟩ := j
        have hop' : (io == 0) = false := beq_eq_false_iff_ne.2 hop
        have HN := Lib.hid hne
        clear hne hop
        go_wp2_with fail
        all_goals (first | (go_ret; exact ⟨rfl, hB5.alloc hB5.size _⟩) | (exfalso; exact HN.out (by simp_all)))
    · have hq' : (x / p2 k % 2 == 1) = false := by simpa using hq
      go_wp2_with fail
      refine (decode_any ((x + p2 k) % 4294967296) (by omega) (by omega) _).mono ?_
      rintro e w5 ⟨rfl, hb5⟩
      have hB5 := hB4.trans (hb5.mono hB4.size)
      have hF5 := hF4.below hb5 hF4.lt
      clear hB4 hF4 c0 c1 c2 c3 c4 hb5
      obtain ⟨c0, c1, c2, c3, c4⟩ := hF5.cells
      have hlt := hF5.lt
      have hT := tail_of x ((x + p2 k) % 4294967296) h0 h1 (by omega) (by omega) (by omega)
      generalize decZ ((x + p2 k) % 4294967296) = j at *
      generalize decZ x = i at *
      rcases hT with rfl | ⟨hop, hne⟩
      · go_wp2_with fail
        go_ret
        exact ⟨rfl, hB5.alloc hB5.size _⟩
      · obtain ⟨io, is, it, id, im⟩ := i
        obtain ⟨jo, js, jt, jd, jm⟩ := j
        have hop' : (io == 0) = false := beq_eq_false_iff_ne.2 hop
        have HN := Lib.hid hne
        clear hne hop
        go_wp2_with fail
        all_goals (first | (go_ret; exact ⟨rfl, hB5.alloc hB5.size _⟩) | (exfalso; exact HN.out (by simp_all)))
  · rw [h, show bsl [108, 111, 97, 100] = ⟨#[108, 111, 97, 100]⟩ from rfl]
    clear h
    go_wp2_with fail
    refine (shift_one k hk _).mono ?_
    rintro e w' ⟨rfl, rfl⟩
    go_wp2_with fail
    refine (part_one x k h0 h1 hk _).mono ?_
    rintro e w' ⟨rfl, rfl⟩
    by_cases hq : (x / p2 k % 2 == 1) = true
    · have hy := bit_on x k h0 hq
      go_wp2_with fail
      refine (decode_any (x - p2 k) (by omega) (by omega) _).mono ?_
      rintro e w5 ⟨rfl, hb5⟩
      have hB5 := hB4.trans (hb5.mono hB4.size)
      have hF5 := hF4.below hb5 hF4.lt
      clear hB4 hF4 c0 c1 c2 c3 c4 hb5
      obtain ⟨c0, c1, c2, c3, c4⟩ := hF5.cells
      have hlt := hF5.lt
      have hT := tail_of x (x - p2 k) h0 h1 (by omega) (by omega) (by omega)
      generalize decZ (x - p2 k) = j at *
      generalize decZ x = i at *
      rcases hT with rfl | ⟨hop, hne⟩
      · go_wp2_with fail
        go_ret
        exact ⟨rfl, hB5.alloc hB5.size _⟩
      · obtain ⟨io, is, it, id, im⟩ := i
        obtain ⟨jo, js, jt, jd, jm⟩ := j
        have hop' : (io == 0) = false := beq_eq_false_iff_ne.2 hop
        have HN := Lib.hid hne
        clear hne hop
        go_wp2_with fail
        all_goals (first | (go_ret; exact ⟨rfl, hB5.alloc hB5.size _⟩) | (exfalso; exact HN.out (by simp_all)))
    · have hq' : (x / p2 k % 2 == 1) = false := by simpa using hq
      go_wp2_with fail
      refine (decode_any ((x + p2 k) % 4294967296) (by omega) (by omega) _).mono ?_
      rintro e w5 ⟨rfl, hb5⟩
      have hB5 := hB4.trans (hb5.mono hB4.size)
      have hF5 := hF4.below hb5 hF4.lt
      clear hB4 hF4 c0 c1 c2 c3 c4 hb5
      obtain ⟨c0, c1, c2, c3, c4⟩ := hF5.cells
      have hlt := hF5.lt
      have hT := tail_of x ((x + p2 k) % 4294967296) h0 h1 (by omega) (by omega) (by omega)
      generalize decZ ((x + p2 k) % 4294967296) = j at *
      generalize decZ x = i at *
      rcases hT with rfl | ⟨hop, hne⟩
      · go_wp2_with fail
        go_ret
        exact ⟨rfl, hB5.alloc hB5.size _⟩
      · obtain ⟨io, is, it, id, im⟩ := i
        obtain ⟨jo, js, jt, jd, jm⟩ := j
        have hop' : (io == 0) = false := beq_eq_false_iff_ne.2 hop
        have HN := Lib.hid hne
        clear hne hop
        go_wp2_with fail
        all_goals (first | (go_ret; exact ⟨rfl, hB5.alloc hB5.size _⟩) | (exfalso; exact HN.out (by simp_all)))
  · rw [h, show bsl [115, 116, 111, 114, 101] = ⟨#[115, 116, 111, 114, 101]⟩ from rfl]
    clear h
    go_wp2_with fail
    refine (shift_one k hk _).mono ?_
    rintro e w' ⟨rfl, rfl⟩
    go_wp2_with fail
    refine (part_one x k h0 h1 hk _).mono ?_
    rintro e w' ⟨rfl, rfl⟩
    by_cases hq : (x / p2 k % 2 == 1) = true
    · have hy := bit_on x k h0 hq
      go_wp2_with fail
      refine (decode_any (x - p2 k) (by omega) (by omega) _).mono ?_
      rintro e w5 ⟨rfl, hb5⟩
      have hB5 := hB4.trans (hb5.mono hB4.size)
      have hF5 := hF4.below hb5 hF4.lt
      clear hB4 hF4 c0 c1 c2 c3 c4 hb5
      obtain ⟨c0, c1, c2, c3, c4⟩ := hF5.cells
      have hlt := hF5.lt
      have hT := tail_of x (x - p2 k) h0 h1 (by omega) (by omega) (by omega)
      generalize decZ (x - p2 k) = j at *
      generalize decZ x = i at *
      rcases hT with rfl | ⟨hop, hne⟩
      · go_wp2_with fail
        go_ret
        exact ⟨rfl, hB5.alloc hB5.size _⟩
      · obtain ⟨io, is, it, id, im⟩ := i
        obtain ⟨jo, js, jt, jd, jm⟩ := j
        have hop' : (io == 0) = false := beq_eq_false_iff_ne.2 hop
        have HN := Lib.hid hne
        clear hne hop
        go_wp2_with fail
        all_goals (first | (go_ret; exact ⟨rfl, hB5.alloc hB5.size _⟩) | (exfalso; exact HN.out (by simp_all)))
    · have hq' : (x / p2 k % 2 == 1) = false := by simpa using hq
      go_wp2_with fail
      refine (decode_any ((x + p2 k) % 4294967296) (by omega) (by omega) _).mono ?_
      rintro e w5 ⟨rfl, hb5⟩
      have hB5 := hB4.trans (hb5.mono hB4.size)
      have hF5 := hF4.below hb5 hF4.lt
      clear hB4 hF4 c0 c1 c2 c3 c4 hb5
      obtain ⟨c0, c1, c2, c3, c4⟩ := hF5.cells
      have hlt := hF5.lt
      have hT := tail_of x ((x + p2 k) % 4294967296) h0 h1 (by omega) (by omega) (by omega)
      generalize decZ ((x + p2 k) % 4294967296) = j at *
      generalize decZ x = i at *
      rcases hT with rfl | ⟨hop, hne⟩
      · go_wp2_with fail
        go_ret
        exact ⟨rfl, hB5.alloc hB5.size _⟩
      · obtain ⟨io, is, it, id, im⟩ := i
        obtain ⟨jo, js, jt, jd, jm⟩ := j
        have hop' : (io == 0) = false := beq_eq_false_iff_ne.2 hop
        have HN := Lib.hid hne
        clear hne hop
        go_wp2_with fail
        all_goals (first | (go_ret; exact ⟨rfl, hB5.alloc hB5.size _⟩) | (exfalso; exact HN.out (by simp_all)))
  · rw [h, show bsl [116, 114, 97, 112] = ⟨#[116, 114, 97, 112]⟩ from rfl]
    clear h
    go_wp2_with fail
    refine (shift_one k hk _).mono ?_
    rintro e w' ⟨rfl, rfl⟩
    go_wp2_with fail
    refine (part_one x k h0 h1 hk _).mono ?_
    rintro e w' ⟨rfl, rfl⟩
    by_cases hq : (x / p2 k % 2 == 1) = true
    · have hy := bit_on x k h0 hq
      go_wp2_with fail
      refine (decode_any (x - p2 k) (by omega) (by omega) _).mono ?_
      rintro e w5 ⟨rfl, hb5⟩
      have hB5 := hB4.trans (hb5.mono hB4.size)
      have hF5 := hF4.below hb5 hF4.lt
      clear hB4 hF4 c0 c1 c2 c3 c4 hb5
      obtain ⟨c0, c1, c2, c3, c4⟩ := hF5.cells
      have hlt := hF5.lt
      have hT := tail_of x (x - p2 k) h0 h1 (by omega) (by omega) (by omega)
      generalize decZ (x - p2 k) = j at *
      generalize decZ x = i at *
      rcases hT with rfl | ⟨hop, hne⟩
      · go_wp2_with fail
        go_ret
        exact ⟨rfl, hB5.alloc hB5.size _⟩
      · obtain ⟨io, is, it, id, im⟩ := i
        obtain ⟨jo, js, jt, jd, jm⟩ := j
        have hop' : (io == 0) = false := beq_eq_false_iff_ne.2 hop
        have HN := Lib.hid hne
        clear hne hop
        go_wp2_with fail
        all_goals (first | (go_ret; exact ⟨rfl, hB5.alloc hB5.size _⟩) | (exfalso; exact HN.out (by simp_all)))
    · have hq' : (x / p2 k % 2 == 1) = false := by simpa using hq
      go_wp2_with fail
      refine (decode_any ((x + p2 k) % 4294967296) (by omega) (by omega) _).mono ?_
      rintro e w5 ⟨rfl, hb5⟩
      have hB5 := hB4.trans (hb5.mono hB4.size)
      have hF5 := hF4.below hb5 hF4.lt
      clear hB4 hF4 c0 c1 c2 c3 c4 hb5
      obtain ⟨c0, c1, c2, c3, c4⟩ := hF5.cells
      have hlt := hF5.lt
      have hT := tail_of x ((x + p2 k) % 4294967296) h0 h1 (by omega) (by omega) (by omega)
      generalize decZ ((x + p2 k) % 4294967296) = j at *
      generalize decZ x = i at *
      rcases hT with rfl | ⟨hop, hne⟩
      · go_wp2_with fail
        go_ret
        exact ⟨rfl, hB5.alloc hB5.size _⟩
      · obtain ⟨io, is, it, id, im⟩ := i
        obtain ⟨jo, js, jt, jd, jm⟩ := j
        have hop' : (io == 0) = false := beq_eq_false_iff_ne.2 hop
        have HN := Lib.hid hne
        clear hne hop
        go_wp2_with fail
        all_goals (first | (go_ret; exact ⟨rfl, hB5.alloc hB5.size _⟩) | (exfalso; exact HN.out (by simp_all)))
  · rw [h, show bsl [115, 117, 109] = ⟨#[115, 117, 109]⟩ from rfl]
    clear h
    go_wp2_with fail
    refine (shift_one k hk _).mono ?_
    rintro e w' ⟨rfl, rfl⟩
    go_wp2_with fail
    refine (part_one x k h0 h1 hk _).mono ?_
    rintro e w' ⟨rfl, rfl⟩
    by_cases hq : (x / p2 k % 2 == 1) = true
    · have hy := bit_on x k h0 hq
      go_wp2_with fail
      refine (decode_any (x - p2 k) (by omega) (by omega) _).mono ?_
      rintro e w5 ⟨rfl, hb5⟩
      have hB5 := hB4.trans (hb5.mono hB4.size)
      have hF5 := hF4.below hb5 hF4.lt
      clear hB4 hF4 c0 c1 c2 c3 c4 hb5
      obtain ⟨c0, c1, c2, c3, c4⟩ := hF5.cells
      have hlt := hF5.lt
      have hT := tail_of x (x - p2 k) h0 h1 (by omega) (by omega) (by omega)
      generalize decZ (x - p2 k) = j at *
      generalize decZ x = i at *
      rcases hT with rfl | ⟨hop, hne⟩
      · go_wp2_with fail
        go_ret
        exact ⟨rfl, hB5.alloc hB5.size _⟩
      · obtain ⟨io, is, it, id, im⟩ := i
        obtain ⟨jo, js, jt, jd, jm⟩ := j
        have hop' : (io == 0) = false := beq_eq_false_iff_ne.2 hop
        have HN := Lib.hid hne
        clear hne hop
        go_wp2_with fail
        all_goals (first | (go_ret; exact ⟨rfl, hB5.alloc hB5.size _⟩) | (exfalso; exact HN.out (by simp_all)))
    · have hq' : (x / p2 k % 2 == 1) = false := by simpa using hq
      go_wp2_with fail
      refine (decode_any ((x + p2 k) % 4294967296) (by omega) (by omega) _).mono ?_
      rintro e w5 ⟨rfl, hb5⟩
      have hB5 := hB4.trans (hb5.mono hB4.size)
      have hF5 := hF4.below hb5 hF4.lt
      clear hB4 hF4 c0 c1 c2 c3 c4 hb5
      obtain ⟨c0, c1, c2, c3, c4⟩ := hF5.cells
      have hlt := hF5.lt
      have hT := tail_of x ((x + p2 k) % 4294967296) h0 h1 (by omega) (by omega) (by omega)
      generalize decZ ((x + p2 k) % 4294967296) = j at *
      generalize decZ x = i at *
      rcases hT with rfl | ⟨hop, hne⟩
      · go_wp2_with fail
        go_ret
        exact ⟨rfl, hB5.alloc hB5.size _⟩
      · obtain ⟨io, is, it, id, im⟩ := i
        obtain ⟨jo, js, jt, jd, jm⟩ := j
        have hop' : (io == 0) = false := beq_eq_false_iff_ne.2 hop
        have HN := Lib.hid hne
        clear hne hop
        go_wp2_with fail
        all_goals (first | (go_ret; exact ⟨rfl, hB5.alloc hB5.size _⟩) | (exfalso; exact HN.out (by simp_all)))
end Go.Proofs.YtnppegldebocmaaDoor
