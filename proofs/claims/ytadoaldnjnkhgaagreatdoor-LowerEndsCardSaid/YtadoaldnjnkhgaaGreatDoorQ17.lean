/- The document's EncodeOf answers as the program's Encode does: the ways of the walk joined. The plain law of lowering, last part: any region's code is right, and ends as its instructions do. No program in sight. The walks of the document's storesOf and CodeFault, at a right code. Conditions: as each theorem states. -/
import Derived.Test.YtadoaldnjnkhgaaGreatDoorQ16
import Derived.Test.YtadoaldnjnkhgaaGreatDoorQ06
import Derived.Test.YtadoaldnjnkhgaaGreatDoorQ12
import Derived.Deep.OwnRows
set_option linter.unusedVariables false
set_option linter.unusedSimpArgs false
namespace Go.Proofs.YtadoaldnjnkhgaaGreatDoor
open Go.RowKit
theorem enc_sum (i : InsN) (k : Nat) (hk : k < 54) (hop : i.op = (k : Int)) (m0 : 0 ≤ i.imm) (h : encBad i = false) :
    encL i (fieldsB k) = (fixedN k : Int) + i.s * 2097152 + i.t * 65536 + i.d * 2048 + (if (fieldsB k).contains 97 then i.imm * 64 else i.imm) ∧ wellB i.s ((fieldsB k).contains 83) = true ∧ wellB i.t ((fieldsB k).contains 84) = true ∧ wellB i.d ((fieldsB k).contains 68) = true ∧ i.imm ≤ mostZ (fieldsB k) := by
  have h2 := h
  rw [encBad_eq i k hop m0] at h2
  simp only [Bool.not_eq_false', Bool.and_eq_true, decide_eq_true_eq] at h2
  obtain ⟨⟨⟨hS, hT⟩, hD⟩, hm⟩ := h2
  obtain ⟨g1, _, _⟩ := good_parts i k hop h
  obtain ⟨e1, _, _, _⟩ := enc_parts i k hk hop g1
  refine ⟨?_, hS, hT, hD, hm⟩
  rw [e1, encN_sum i k hk g1]
  obtain ⟨op, s, t, d, m⟩ := i
  simp only at m0
  rcases fields_cases k with e | e | e | e | e | e | e | e | e | e | e | e
  all_goals
    rw [e] at hS hT hD hm
    rw [e]
    simp [wellB, mostZ] at hS hT hD hm
    simp [termN, termF]
    omega
theorem fields_len (k : Nat) : (fieldsB k).length ≤ 100 := by
  rcases fields_cases k with e | e | e | e | e | e | e | e | e | e | e | e <;> rw [e] <;> decide
theorem minor_lt (k : Nat) : minorN k < 64 := (nums_small k).2.1
theorem fixed_0n (k : Nat) (h : majorN k = 0) : fixedN k = minorN k := by unfold fixedN; rw [if_pos h]
theorem fixed_mn (k : Nat) (h : ¬ majorN k = 0) (h2 : ¬ majorN k = 16) : fixedN k = majorN k * 67108864 := by unfold fixedN; rw [if_neg h, if_neg h2]
theorem fixed_16n (k : Nat) (h : majorN k = 16) : fixedN k = 1073741824 + minorN k * 2097152 + (if minorN k = 16 then 24 else 0) := by unfold fixedN; rw [if_neg (by omega), if_pos h]
theorem encOf_good (op s t d m : Int) (k : Nat) (h1 : 1 ≤ k) (hk : k < 54) (hop : op = (k : Int)) (m0 : 0 ≤ m) (hg : encBad ⟨op, s, t, d, m⟩ = false) (w : World) :
    Calls Tryz.prog 23 #[.agg #[.int .i64 op, .int .i64 s, .int .i64 t, .int .i64 d, .int .u32 m]] w fun e w' => e = .returned (.tuple #[.int .u32 (encL ⟨op, s, t, d, m⟩ (fieldsB k)), .int .i64 0]) ∧ Below w.heap.size w w' := by
  obtain ⟨hs, w83, w84, w68, wm⟩ := enc_sum ⟨op, s, t, d, m⟩ k hk hop m0 hg
  simp only at hs w83 w84 w68 wm
  have hR : rowIs (k : Int) (majorN k) (minorN k) (bsl (nameB k)) (bsl (orderB k)) (bsl (kindB k)) (bsl (fieldsB k)) := fun W => rowOf_at k h1 hk W
  rw [← hop] at hR
  have i83 : isOfIs (bsl (fieldsB k)) 83 ((fieldsB k).contains 83) := fun W => isOf_lit _ (fields_len k) 83 83 (by decide) _ rfl W
  have i84 : isOfIs (bsl (fieldsB k)) 84 ((fieldsB k).contains 84) := fun W => isOf_lit _ (fields_len k) 84 84 (by decide) _ rfl W
  have i68 : isOfIs (bsl (fieldsB k)) 68 ((fieldsB k).contains 68) := fun W => isOf_lit _ (fields_len k) 68 68 (by decide) _ rfl W
  have i97 : isOfIs (bsl (fieldsB k)) 97 ((fieldsB k).contains 97) := fun W => isOf_lit _ (fields_len k) 97 97 (by decide) _ rfl W
  have i105 : isOfIs (bsl (fieldsB k)) 105 ((fieldsB k).contains 105) := fun W => isOf_lit _ (fields_len k) 105 105 (by decide) _ rfl W
  have i106 : isOfIs (bsl (fieldsB k)) 106 ((fieldsB k).contains 106) := fun W => isOf_lit _ (fields_len k) 106 106 (by decide) _ rfl W
  have f83 : wellIs s ((fieldsB k).contains 83) true := fun W => fieldWell_any s _ true w83 W
  have f84 : wellIs t ((fieldsB k).contains 84) true := fun W => fieldWell_any t _ true w84 W
  have f68 : wellIs d ((fieldsB k).contains 68) true := fun W => fieldWell_any d _ true w68 W
  have hmi := minor_lt k
  have o0 : 1 ≤ op := by omega
  have o1 : op < 54 := by omega
  have hfit : ∀ z, z = encL ⟨op, s, t, d, m⟩ (fieldsB k) → ∀ (e : Ending) (w' : World), (e = .returned (.tuple #[.int .u32 z, .int .i64 0]) ∧ Below w.heap.size w w') → (e = .returned (.tuple #[.int .u32 (encL ⟨op, s, t, d, m⟩ (fieldsB k)), .int .i64 0]) ∧ Below w.heap.size w w') := fun z hz e w' h => by rw [← hz]; exact h
  rcases tab_6 k hk with ⟨h0, hl⟩ | ⟨h0, hl⟩ | ⟨h0, h16, hl⟩
  · rw [fixed_0n k h0] at hs
    rw [show ((majorN k : Nat) : Int) = 0 by omega] at hR
    clear hop
    rcases hl with e | e | e | e | e | e | e
    all_goals
      rw [e] at w83 w84 w68 wm
      simp [wellB, mostZ] at w83 w84 w68 wm
      first
      | have c97 : (fieldsB k).contains 97 = false := by rw [e]; decide
        have c105 : (fieldsB k).contains 105 = false := by rw [e]; decide
        have c106 : (fieldsB k).contains 106 = false := by rw [e]; decide
        rw [c97] at i97 hs
        rw [c105] at i105
        rw [c106] at i106
        simp only [if_true, if_false, Bool.false_eq_true] at hs
        refine (encof_0 (minorN k) (by omega) (by omega) op s t d m _ _ _ _ _ _ _ o0 o1 (by omega) (by omega) (by omega) (by omega) (by omega) (by omega) m0 (by omega) hR i83 i84 i68 i97 i105 i106 f83 f84 f68 w).mono (hfit _ ?_)
        rw [hs] <;> omega
      | have c97 : (fieldsB k).contains 97 = true := by rw [e]; decide
        have c105 : (fieldsB k).contains 105 = false := by rw [e]; decide
        have c106 : (fieldsB k).contains 106 = false := by rw [e]; decide
        rw [c97] at i97 hs
        rw [c105] at i105
        rw [c106] at i106
        simp only [if_true, if_false, Bool.false_eq_true] at hs
        refine (encof_0a (minorN k) (by omega) (by omega) op s t d m _ _ _ _ _ _ _ o0 o1 (by omega) (by omega) (by omega) (by omega) (by omega) (by omega) m0 (by omega) hR i83 i84 i68 i97 i105 i106 f83 f84 f68 w).mono (hfit _ ?_)
        rw [hs] <;> omega
  · rw [fixed_16n k h0] at hs
    rw [show ((majorN k : Nat) : Int) = 16 by omega] at hR
    clear hop
    have hmm := (nums_small k).2.2 h0
    rcases hl with ⟨e, hn⟩ | ⟨e, hn⟩
    · rw [if_neg hn] at hs
      rw [e] at w83 w84 w68 wm
      simp [wellB, mostZ] at w83 w84 w68 wm
      have c97 : (fieldsB k).contains 97 = false := by rw [e]; decide
      have c105 : (fieldsB k).contains 105 = false := by rw [e]; decide
      have c106 : (fieldsB k).contains 106 = false := by rw [e]; decide
      rw [c97] at i97 hs
      rw [c105] at i105
      rw [c106] at i106
      simp only [if_true, if_false, Bool.false_eq_true] at hs
      refine (encof_16 (minorN k) (by omega) (by omega) (beq_eq_false_iff_ne.2 (by omega)) op s t d m _ _ _ _ _ _ _ o0 o1 (by omega) (by omega) (by omega) (by omega) (by omega) (by omega) m0 (by omega) hR i83 i84 i68 i97 i105 i106 f83 f84 f68 w).mono (hfit _ ?_)
      rw [hs] <;> omega
    · rw [if_pos hn] at hs
      rw [show ((minorN k : Nat) : Int) = 16 by omega] at hR
      rw [e] at w83 w84 w68 wm
      simp [wellB, mostZ] at w83 w84 w68 wm
      have c97 : (fieldsB k).contains 97 = false := by rw [e]; decide
      have c105 : (fieldsB k).contains 105 = false := by rw [e]; decide
      have c106 : (fieldsB k).contains 106 = false := by rw [e]; decide
      rw [c97] at i97 hs
      rw [c105] at i105
      rw [c106] at i106
      simp only [if_true, if_false, Bool.false_eq_true] at hs
      refine (encof_24 op s t d m _ _ _ _ _ _ _ o0 o1 (by omega) (by omega) (by omega) (by omega) (by omega) (by omega) m0 (by omega) hR i83 i84 i68 i97 i105 i106 f83 f84 f68 w).mono (hfit _ ?_)
      rw [hs] <;> omega
  · rw [fixed_mn k h0 h16] at hs
    have hma := (nums_small k).1
    have z0 : ((majorN k : Int) == 0) = false := beq_eq_false_iff_ne.2 (by omega)
    have z1 : ((majorN k : Int) == 16) = false := beq_eq_false_iff_ne.2 (by omega)
    rcases hl with e | e | e | e
    all_goals
      rw [e] at w83 w84 w68 wm
      simp [wellB, mostZ] at w83 w84 w68 wm
      first
      | have c97 : (fieldsB k).contains 97 = false := by rw [e]; decide
        have c105 : (fieldsB k).contains 105 = true := by rw [e]; decide
        have c106 : (fieldsB k).contains 106 = false := by rw [e]; decide
        rw [c97] at i97 hs
        rw [c105] at i105
        rw [c106] at i106
        simp only [if_true, if_false, Bool.false_eq_true] at hs
        refine (encof_i (majorN k) (minorN k) (by omega) (by omega) z0 z1 op s t d m _ _ _ _ _ _ _ o0 o1 (by omega) (by omega) (by omega) (by omega) (by omega) (by omega) m0 (by omega) hR i83 i84 i68 i97 i105 i106 f83 f84 f68 w).mono (hfit _ ?_)
        rw [hs] <;> omega
      | have c97 : (fieldsB k).contains 97 = false := by rw [e]; decide
        have c105 : (fieldsB k).contains 105 = false := by rw [e]; decide
        have c106 : (fieldsB k).contains 106 = true := by rw [e]; decide
        rw [c97] at i97 hs
        rw [c105] at i105
        rw [c106] at i106
        simp only [if_true, if_false, Bool.false_eq_true] at hs
        refine (encof_j (majorN k) (minorN k) (by omega) (by omega) z0 z1 op s t d m _ _ _ _ _ _ _ o0 o1 (by omega) (by omega) (by omega) (by omega) (by omega) (by omega) m0 (by omega) hR i83 i84 i68 i97 i105 i106 f83 f84 f68 w).mono (hfit _ ?_)
        rw [hs] <;> omega
theorem encOf_bad (op s t d m : Int) (k : Nat) (h1 : 1 ≤ k) (hk : k < 54) (hop : op = (k : Int)) (m0 : 0 ≤ m) (m1 : m < 4294967296) (hg : encBad ⟨op, s, t, d, m⟩ = true) (w : World) :
    Calls Tryz.prog 23 #[.agg #[.int .i64 op, .int .i64 s, .int .i64 t, .int .i64 d, .int .u32 m]] w fun e w' => e = .returned (.tuple #[.int .u32 0, .int .i64 2]) ∧ Below w.heap.size w w' := by
  rw [encBad_eq _ k hop m0] at hg
  have hR : rowIs (k : Int) (majorN k) (minorN k) (bsl (nameB k)) (bsl (orderB k)) (bsl (kindB k)) (bsl (fieldsB k)) := fun W => rowOf_at k h1 hk W
  rw [← hop] at hR
  have i83 : isOfIs (bsl (fieldsB k)) 83 ((fieldsB k).contains 83) := fun W => isOf_lit _ (fields_len k) 83 83 (by decide) _ rfl W
  have i84 : isOfIs (bsl (fieldsB k)) 84 ((fieldsB k).contains 84) := fun W => isOf_lit _ (fields_len k) 84 84 (by decide) _ rfl W
  have i68 : isOfIs (bsl (fieldsB k)) 68 ((fieldsB k).contains 68) := fun W => isOf_lit _ (fields_len k) 68 68 (by decide) _ rfl W
  have i97 : isOfIs (bsl (fieldsB k)) 97 ((fieldsB k).contains 97) := fun W => isOf_lit _ (fields_len k) 97 97 (by decide) _ rfl W
  have i105 : isOfIs (bsl (fieldsB k)) 105 ((fieldsB k).contains 105) := fun W => isOf_lit _ (fields_len k) 105 105 (by decide) _ rfl W
  have i106 : isOfIs (bsl (fieldsB k)) 106 ((fieldsB k).contains 106) := fun W => isOf_lit _ (fields_len k) 106 106 (by decide) _ rfl W
  cases hS : wellB s ((fieldsB k).contains 83)
  · exact encof_b1 _ _ op s t d m _ _ _ _ _ _ _ false _ _ (by omega) (by omega) m0 m1 hR i83 i84 i68 (fun W => fieldWell_any s _ false hS W) (fun W => fieldWell_any t _ _ rfl W) (fun W => fieldWell_any d _ _ rfl W) w
  · cases hT : wellB t ((fieldsB k).contains 84)
    · exact encof_b2 _ _ op s t d m _ _ _ _ _ _ _ false false _ (by omega) (by omega) m0 m1 hR i83 i84 i68 (fun W => fieldWell_any s _ true hS W) (fun W => fieldWell_any t _ false hT W) (fun W => fieldWell_any d _ _ rfl W) w
    · cases hD : wellB d ((fieldsB k).contains 68)
      · exact encof_b3 _ _ op s t d m _ _ _ _ _ _ _ false false false (by omega) (by omega) m0 m1 hR i83 i84 i68 (fun W => fieldWell_any s _ true hS W) (fun W => fieldWell_any t _ true hT W) (fun W => fieldWell_any d _ false hD W) w
      · have hm : mostZ (fieldsB k) < m := by
          rw [hS, hT, hD] at hg
          simp at hg
          exact hg
        have f83 : wellIs s ((fieldsB k).contains 83) true := fun W => fieldWell_any s _ true hS W
        have f84 : wellIs t ((fieldsB k).contains 84) true := fun W => fieldWell_any t _ true hT W
        have f68 : wellIs d ((fieldsB k).contains 68) true := fun W => fieldWell_any d _ true hD W
        clear hg hS hT hD
        rcases fields_cases k with e | e | e | e | e | e | e | e | e | e | e | e
        all_goals
          rw [e] at hm
          simp [mostZ] at hm
          first
          | have c97 : (fieldsB k).contains 97 = false := by rw [e]; decide
            have c105 : (fieldsB k).contains 105 = false := by rw [e]; decide
            have c106 : (fieldsB k).contains 106 = false := by rw [e]; decide
            rw [c97] at i97
            rw [c105] at i105
            rw [c106] at i106
            exact encof_m0 _ _ op s t d m _ _ _ _ _ _ _ false false false (by omega) (by omega) m0 m1 hR i83 i84 i68 i97 i105 i106 (by omega) f83 f84 f68 w
          | have c97 : (fieldsB k).contains 97 = true := by rw [e]; decide
            have c105 : (fieldsB k).contains 105 = false := by rw [e]; decide
            have c106 : (fieldsB k).contains 106 = false := by rw [e]; decide
            rw [c97] at i97
            rw [c105] at i105
            rw [c106] at i106
            exact encof_ma _ _ op s t d m _ _ _ _ _ _ _ false false false (by omega) (by omega) m0 m1 hR i83 i84 i68 i97 i105 i106 (by omega) f83 f84 f68 w
          | have c97 : (fieldsB k).contains 97 = false := by rw [e]; decide
            have c105 : (fieldsB k).contains 105 = true := by rw [e]; decide
            have c106 : (fieldsB k).contains 106 = false := by rw [e]; decide
            rw [c97] at i97
            rw [c105] at i105
            rw [c106] at i106
            exact encof_mi _ _ op s t d m _ _ _ _ _ _ _ false false false (by omega) (by omega) m0 m1 hR i83 i84 i68 i97 i105 i106 (by omega) f83 f84 f68 w
          | have c97 : (fieldsB k).contains 97 = false := by rw [e]; decide
            have c105 : (fieldsB k).contains 105 = false := by rw [e]; decide
            have c106 : (fieldsB k).contains 106 = true := by rw [e]; decide
            rw [c97] at i97
            rw [c105] at i105
            rw [c106] at i106
            exact encof_mj _ _ op s t d m _ _ _ _ _ _ _ false false false (by omega) (by omega) m0 m1 hR i83 i84 i68 i97 i105 i106 (by omega) f83 f84 f68 w
end Go.Proofs.YtadoaldnjnkhgaaGreatDoor
namespace Go.Proofs.YtadoaldnjnkhgaaGreatDoor
open Go.RowKit
abbrev trapB : List UInt8 := [116, 114, 97, 112]
abbrev branchB : List UInt8 := [98, 114, 97, 110, 99, 104]
abbrev storeB : List UInt8 := [115, 116, 111, 114, 101]
def insErr (i : InsN) : Bool := decide (i.op < 1 ∨ 54 ≤ i.op) || encBad i
def okAt (n k : Nat) (i : InsN) : Bool := !insErr i && !decide (kindOfB i.op = trapB) && (!decide (kindOfB i.op = branchB) || decide (k + 2 = n))
def allOk (n : Nat) : List InsN → Nat → Bool
  | [], _ => true
  | i :: l, k => okAt n k i && allOk n l (k + 1)
def storesN (l : List InsN) : Nat := (l.filter fun i => decide (kindOfB i.op = storeB)).length
def regErr (l : List InsN) : Nat := if l = [] then 6 else if 24 < l.length then 2 else if allOk l.length l 0 = true ∧ storesN l ≤ 8 then 0 else 4
theorem allOk_at (n : Nat) : ∀ (l : List InsN) (k : Nat), allOk n l k = true ↔ ∀ j (h : j < l.length), okAt n (k + j) l[j] = true
  | [], k => ⟨fun _ j h => absurd h (Nat.not_lt_zero j), fun _ => rfl⟩
  | i :: l, k => by
    simp only [allOk, Bool.and_eq_true]
    rw [allOk_at n l (k + 1)]
    constructor
    · rintro ⟨h1, h2⟩ j hj
      cases j with
      | zero => exact h1
      | succ j =>
        have := h2 j (by simpa using hj)
        rw [show k + (j + 1) = k + 1 + j by omega]
        exact this
    · intro h
      refine ⟨h 0 (by simp), fun j hj => ?_⟩
      have := h (j + 1) (by simpa using hj)
      rw [show k + 1 + j = k + (j + 1) by omega]
      exact this
theorem storesN_app (a b : List InsN) : storesN (a ++ b) = storesN a + storesN b := by simp [storesN]
theorem kind_p1 : ∀ k, k < 54 → (kindB k = trapB → plainOp k = false ∧ brOp k = false) := by decide +kernel
theorem kind_p2 : ∀ k, k < 54 → (kindB k = branchB ↔ brOp k = true) := by decide +kernel
theorem kind_p3 : ∀ k, k < 54 → (1 ≤ k → (kindB k ≠ trapB → (kindB k ≠ branchB → plainOp k = true))) := by decide +kernel
theorem kind_p4 : ∀ k, k < 54 → (kindB k = storeB ↔ isSt k = true) := by decide +kernel
theorem kind_plain (k : Nat) (h1 : 1 ≤ k) (h2 : k < 54) : (kindB k = trapB → plainOp k = false ∧ brOp k = false) ∧ (kindB k = branchB ↔ brOp k = true) ∧ (kindB k ≠ trapB → kindB k ≠ branchB → plainOp k = true) ∧ (kindB k = storeB ↔ isSt k = true) :=
  ⟨kind_p1 k h2, kind_p2 k h2, kind_p3 k h2 h1, kind_p4 k h2⟩
theorem kindOfB_pos {n : Int} {k : Nat} (h1 : 1 ≤ k) (h : n = (k : Int)) : kindOfB n = kindB k := by
  subst h
  unfold kindOfB
  rw [if_neg (by omega), Int.toNat_natCast]
theorem most_low : ∀ k, k < 54 → (mostZ (fieldsB k) ≤ 67108863 ∧ (plainOp k = true → mostZ (fieldsB k) ≤ 65535)) := by decide +kernel
structure InsR (i : InsN) : Prop where
  op1 : 1 ≤ i.o
  op2 : i.o < 54
  op : i.op = (i.o : Int)
  ok : InsOK i
  sv : i.s = (i.s.toNat : Int)
  tv : i.t = (i.t.toNat : Int)
  dv : i.d = (i.d.toNat : Int)
  m0 : 0 ≤ i.imm
  m1 : i.imm < 67108864
  m2 : plainOp i.o = true → i.imm < 65536
theorem well_le {n : Int} {b : Bool} (h : wellB n b = true) : 0 ≤ n ∧ n < 32 := by
  unfold wellB at h
  simp only [Bool.or_eq_true, Bool.and_eq_true, decide_eq_true_eq] at h
  omega
theorem InsR.of {i : InsN} (h : insErr i = false) (m0 : 0 ≤ i.imm) : InsR i := by
  unfold insErr at h
  simp only [Bool.or_eq_false_iff, decide_eq_false_iff_not] at h
  obtain ⟨h1, h2⟩ := h
  have hop : i.op = (i.op.toNat : Int) := by omega
  obtain ⟨_, w1, w2, w3, w4⟩ := enc_sum i i.op.toNat (by omega) hop m0 h2
  have e1 := well_le w1
  have e2 := well_le w2
  have e3 := well_le w3
  have hm := most_low i.op.toNat (by omega)
  exact ⟨by simp only [InsN.o]; omega, by simp only [InsN.o]; omega, hop, ⟨by omega, by omega, by omega⟩, by omega, by omega, by omega, m0, by have := hm.1; omega, fun hp => by have := hm.2 hp; omega⟩
theorem okAt_parts {n k : Nat} {i : InsN} (h : okAt n k i = true) (m0 : 0 ≤ i.imm) : InsR i ∧ (brOp i.o = true → k + 2 = n) ∧ (brOp i.o = false → plainOp i.o = true) ∧ (kindOfB i.op = storeB ↔ isSt i.o = true) ∧ (kindOfB i.op = branchB ↔ brOp i.o = true) := by
  unfold okAt at h
  simp only [Bool.and_eq_true, Bool.or_eq_true, Bool.not_eq_true', decide_eq_false_iff_not, decide_eq_true_eq] at h
  obtain ⟨⟨h1, h2⟩, h3⟩ := h
  have hR := InsR.of h1 m0
  have hk := kindOfB_pos hR.op1 hR.op
  rw [hk] at h2 h3 ⊢
  obtain ⟨a, b, c, d⟩ := kind_plain i.o hR.op1 hR.op2
  refine ⟨hR, fun hb => ?_, fun hb => ?_, d, b⟩
  · rcases h3 with h3 | h3
    · exact absurd (b.2 hb) h3
    · exact h3
  · refine c h2 (fun e => ?_)
    rw [b.1 e] at hb
    cases hb
def lowAt (pc : Int) (e : Bool) (n : Nat) (i : InsN) (k : Nat) : List OpN :=
  if e = true ∧ k + 2 = n then lowBr pc i.o i.s.toNat i.t.toNat i.d.toNat k else lowIns i.o i.s.toNat i.t.toNat i.d.toNat i.imm k
def lowUpto (pc : Int) (e : Bool) (n : Nat) : List InsN → Nat → List OpN
  | [], _ => []
  | i :: l, k => lowAt pc e n i k ++ lowUpto pc e n l (k + 1)
theorem lowUpto_app (pc : Int) (e : Bool) (n : Nat) : ∀ (a b : List InsN) (k : Nat), lowUpto pc e n (a ++ b) k = lowUpto pc e n a k ++ lowUpto pc e n b (k + a.length)
  | [], b, k => by simp [lowUpto]
  | i :: a, b, k => by
    simp only [List.cons_append, lowUpto, List.append_assoc, List.length_cons]
    rw [lowUpto_app pc e n a b (k + 1), show k + 1 + a.length = k + (a.length + 1) by omega]
def endsB (l : List InsN) : Bool := match l[l.length - 2]? with
  | some i => decide (2 ≤ l.length) && brOp i.o
  | none => false
def lowAll (pc : Int) (l : List InsN) : List OpN := lowUpto pc (endsB l) l.length l 0 ++
  (if endsB l = true then lowLv ((pc + 4 * ((l.length - 2 : Nat) : Int)) % 4294967296) (l[l.length - 2]?.getD ⟨0, 0, 0, 0, 0⟩).o (l[l.length - 2]?.getD ⟨0, 0, 0, 0, 0⟩).imm (l.length - 1)
   else [⟨.out, 0, 0, 0, (pc + 4 * (l.length : Int)) % 4294967296, l.length - 1⟩])
theorem lowUpto_len {pc : Int} {e : Bool} {n : Nat} : ∀ (l : List InsN) (k : Nat), (∀ j (h : j < l.length), PartG (k + j) 3 (if isSt (l[j]).o = true then 1 else 0) (lowAt pc e n l[j] (k + j))) →
    (lowUpto pc e n l k).length ≤ 3 * l.length ∧ storesO (lowUpto pc e n l k) = (l.filter fun i => isSt i.o).length ∧ (∀ o ∈ lowUpto pc e n l k, k ≤ o.at' ∧ o.at' < k + l.length ∧ opG o ∧ Reg32 o.imm ∧ outK o.kind = false) ∧ (lowUpto pc e n l k).Pairwise (fun a b => a.at' ≤ b.at')
  | [], k, _ => ⟨by simp [lowUpto], rfl, fun o ho => (by cases ho), List.Pairwise.nil⟩
  | i :: l, k, h => by
    have h0 := h 0 (by simp)
    simp only [List.getElem_cons_zero, Nat.add_zero] at h0
    obtain ⟨a, b, c, d⟩ := lowUpto_len l (k + 1) (fun j hj => by
      have := h (j + 1) (by simpa using hj)
      simp only [List.getElem_cons_succ] at this
      rw [show k + 1 + j = k + (j + 1) by omega]
      exact this)
    refine ⟨?_, ?_, ?_, ?_⟩
    · simp only [lowUpto, List.length_append, List.length_cons]
      have := h0.len
      omega
    · simp only [lowUpto, storesO_app, h0.st, b, List.filter_cons]
      split
      · rw [List.length_cons]; omega
      · omega
    · intro o ho
      simp only [lowUpto, List.mem_append] at ho
      rcases ho with ho | ho
      · obtain ⟨x1, x2, x3, x4⟩ := h0.all o ho
        exact ⟨by omega, by simp only [List.length_cons]; omega, x2, x3, x4⟩
      · obtain ⟨x1, x2, x3⟩ := c o ho
        exact ⟨by omega, by simp only [List.length_cons]; omega, x3⟩
    · simp only [lowUpto]
      refine List.pairwise_append.2 ⟨List.Pairwise.imp_of_mem (R := fun _ _ => True) (fun {x y} hx hy _ => ?_) (List.pairwise_of_forall (fun _ _ => trivial)), d, fun x hx y hy => ?_⟩
      · rw [(h0.all x hx).1, (h0.all y hy).1]; exact Nat.le_refl _
      · rw [(h0.all x hx).1]; have := (c y hy).1; omega
structure CodeOK (many : Nat) (ops : List OpN) : Prop where
  m0 : 1 ≤ many
  m1 : many ≤ 24
  len : ops.length ≤ 100
  ne : 0 < ops.length
  good : ∀ o ∈ ops, o.at' < many ∧ opG o ∧ Reg32 o.imm
  out : ∀ i (h : i < ops.length), outK ops[i].kind = decide (i + 1 = ops.length)
  sorted : ∀ i (h : i + 1 < ops.length), (ops[i]'(by omega)).at' ≤ ops[i + 1].at'
  st : storesO ops ≤ 8
theorem lvG {op n : Nat} {p m : Int} (hop : brOp op = true) (hm0 : 0 ≤ m) (hm1 : m < 67108864) : ∃ pre last, lowLv p op m n = pre ++ [last] ∧ pre.length ≤ 1 ∧ (∀ o ∈ pre, o.at' = n ∧ opG o ∧ Reg32 o.imm ∧ outK o.kind = false) ∧ storesO pre = 0 ∧ last.at' = n ∧ opG last ∧ Reg32 last.imm ∧ outK last.kind = true ∧ storeK last.kind = false := by
  have hq : Reg32 ((p + 4) % 4294967296 / 268435456 * 268435456 + 4 * m) := by unfold Reg32; omega
  have h1 : op = 7 ∨ op = 8 ∨ op = 29 ∨ op = 30 ∨ op = 31 ∨ op = 32 ∨ op = 33 ∨ op = 34 := by
    unfold brOp at hop
    simpa using hop
  have nn : ∀ o ∈ ([] : List OpN), o.at' = n ∧ opG o ∧ Reg32 o.imm ∧ outK o.kind = false := fun o ho => by cases ho
  rcases h1 with rfl | rfl | rfl | rfl | h1
  · exact ⟨[], _, rfl, by simp, nn, rfl, rfl, ⟨rfl, show 37 < 64 by decide, rfl, rfl⟩, r32_0, rfl, rfl⟩
  · exact ⟨[], _, rfl, by simp, nn, rfl, rfl, ⟨rfl, show 37 < 64 by decide, rfl, rfl⟩, r32_0, rfl, rfl⟩
  · exact ⟨[], _, rfl, by simp, nn, rfl, rfl, ⟨rfl, rfl, rfl⟩, hq, rfl, rfl⟩
  · exact ⟨[], _, rfl, by simp, nn, rfl, rfl, ⟨rfl, rfl, rfl⟩, hq, rfl, rfl⟩
  · have e : lowLv p op m n = [⟨.cond, 0, 36, 0, (p + 4 + wideS m * 4) % 4294967296, n⟩] ++ [⟨.out, 0, 0, 0, (p + 8) % 4294967296, n⟩] := by
      rcases h1 with rfl | rfl | rfl | rfl <;> rfl
    refine ⟨_, _, e, by simp, fun o ho => ?_, rfl, rfl, ⟨rfl, rfl, rfl⟩, r32_mod _, rfl, rfl⟩
    simp only [List.mem_cons, List.not_mem_nil, or_false] at ho
    subst ho
    exact ⟨rfl, ⟨rfl, show 36 < 64 by decide, rfl⟩, r32_mod _, rfl⟩
theorem code_ok {many : Nat} {a : List OpN} {last : OpN} (h0 : 1 ≤ many) (h1 : many ≤ 24) (hl : a.length ≤ 99) (ha : ∀ o ∈ a, o.at' < many ∧ opG o ∧ Reg32 o.imm ∧ outK o.kind = false) (hs : a.Pairwise (fun x y => x.at' ≤ y.at')) (hst : storesO a ≤ 8) (hla : last.at' = many - 1) (hlg : opG last) (hlr : Reg32 last.imm) (hlo : outK last.kind = true) (hls : storeK last.kind = false) : CodeOK many (a ++ [last]) where
  m0 := h0
  m1 := h1
  len := by simp; omega
  ne := by simp
  good o ho := by
    rcases List.mem_append.1 ho with ho | ho
    · exact ⟨(ha o ho).1, (ha o ho).2.1, (ha o ho).2.2.1⟩
    · simp only [List.mem_cons, List.not_mem_nil, or_false] at ho
      subst ho
      exact ⟨by omega, hlg, hlr⟩
  out i h := by
    rw [List.length_append, List.length_cons, List.length_nil] at h ⊢
    by_cases hi : i < a.length
    · rw [List.getElem_append_left hi, (ha _ (List.getElem_mem hi)).2.2.2, decide_eq_false (by omega)]
    · have e : i = a.length := by omega
      subst e
      rw [List.getElem_append_right (Nat.le_refl _)]
      simp [hlo]
  sorted i h := by
    rw [List.length_append, List.length_cons, List.length_nil] at h
    by_cases hi : i + 1 < a.length
    · rw [List.getElem_append_left (show i < a.length by omega), List.getElem_append_left hi]
      exact (List.pairwise_iff_getElem.1 hs) i (i + 1) (by omega) hi (by omega)
    · have e : i + 1 = a.length := by omega
      rw [List.getElem_append_left (show i < a.length by omega), List.getElem_append_right (by omega)]
      simp only [e, Nat.sub_self, List.getElem_cons_zero]
      rw [hla]
      have := (ha _ (List.getElem_mem (show i < a.length by omega))).1
      omega
  st := by
    rw [storesO_app]
    have : storesO [last] = 0 := by simp [storesO, hls]
    omega
theorem reg_parts {l : List InsN} (h : regErr l = 0) (hm : ∀ i ∈ l, 0 ≤ i.imm) : l ≠ [] ∧ l.length ≤ 24 ∧ storesN l ≤ 8 ∧ ∀ j (h : j < l.length), InsR l[j] ∧ (brOp (l[j]).o = true → j + 2 = l.length) ∧ (brOp (l[j]).o = false → plainOp (l[j]).o = true) ∧ (kindOfB (l[j]).op = storeB ↔ isSt (l[j]).o = true) ∧ (kindOfB (l[j]).op = branchB ↔ brOp (l[j]).o = true) := by
  unfold regErr at h
  split at h
  · omega
  · next h1 =>
    split at h
    · omega
    · next h2 =>
      split at h
      · next h3 =>
        refine ⟨h1, by omega, h3.2, fun j hj => ?_⟩
        have := (allOk_at l.length l 0).1 h3.1 j hj
        rw [Nat.zero_add] at this
        exact okAt_parts this (hm _ (List.getElem_mem hj))
      · omega
theorem endsB_at {l : List InsN} (h2 : 2 ≤ l.length) : endsB l = brOp (l[l.length - 2]'(by omega)).o := by
  unfold endsB
  rw [List.getElem?_eq_getElem (by omega)]
  simp only [decide_eq_true h2, Bool.true_and]
theorem endsB_short {l : List InsN} (h2 : l.length < 2) : endsB l = false := by
  unfold endsB
  split
  · rw [decide_eq_false (by omega)]; rfl
  · rfl
theorem low_parts {l : List InsN} {pc : Int} (h : regErr l = 0) (hm : ∀ i ∈ l, 0 ≤ i.imm) : ∀ j (h : j < l.length), PartG (0 + j) 3 (if isSt (l[j]).o = true then 1 else 0) (lowAt pc (endsB l) l.length l[j] (0 + j)) := by
  obtain ⟨h1, h2, h3, h4⟩ := reg_parts h hm
  intro j hj
  obtain ⟨r, b1, b2, _⟩ := h4 j hj
  rw [Nat.zero_add]
  unfold lowAt
  by_cases he : endsB l = true ∧ j + 2 = l.length
  · rw [if_pos he]
    have hb : brOp (l[j]).o = true := by
      have := endsB_at (l := l) (by omega)
      rw [he.1] at this
      have e : l.length - 2 = j := by omega
      simp only [e] at this
      exact this.symm
    have hs : isSt (l[j]).o = false := by
      have hmm : (l[j]).o = 7 ∨ (l[j]).o = 8 ∨ (l[j]).o = 29 ∨ (l[j]).o = 30 ∨ (l[j]).o = 31 ∨ (l[j]).o = 32 ∨ (l[j]).o = 33 ∨ (l[j]).o = 34 := by
        unfold brOp at hb
        simpa using hb
      rcases hmm with e | e | e | e | e | e | e | e <;> rw [e] <;> rfl
    rw [hs, if_neg (by decide)]
    exact brG hb r.ok.s r.ok.t r.ok.d
  · rw [if_neg he]
    have hb : brOp (l[j]).o = false := by
      cases hb : brOp (l[j]).o with
      | false => rfl
      | true =>
        refine absurd ⟨?_, b1 hb⟩ he
        have hj2 := b1 hb
        rw [endsB_at (by omega)]
        have e : l.length - 2 = j := by omega
        simp only [e]
        exact hb
    exact insG (b2 hb) r.ok.s r.ok.t r.ok.d ⟨r.m0, by have := r.m1; omega⟩
theorem stores_eq {l : List InsN} (h : ∀ j (h : j < l.length), (kindOfB (l[j]).op = storeB ↔ isSt (l[j]).o = true)) : storesN l = (l.filter fun i => isSt i.o).length := by
  unfold storesN
  congr 1
  refine List.filter_congr (fun i hi => ?_)
  obtain ⟨j, hj, rfl⟩ := List.getElem_of_mem hi
  have := h j hj
  by_cases e : isSt (l[j]).o = true
  · rw [e, decide_eq_true (this.2 e)]
  · rw [decide_eq_false (fun x => e (this.1 x))]
    simpa using e
theorem lowAll_ok {l : List InsN} {pc : Int} (h : regErr l = 0) (hm : ∀ i ∈ l, 0 ≤ i.imm) : CodeOK l.length (lowAll pc l) := by
  obtain ⟨h1, h2, h3, h4⟩ := reg_parts h hm
  have hlen : 0 < l.length := List.length_pos_iff.2 h1
  obtain ⟨a, b, c, d⟩ := lowUpto_len l 0 (low_parts (pc := pc) h hm)
  have hst : storesO (lowUpto pc (endsB l) l.length l 0) ≤ 8 := by rw [b, ← stores_eq (fun j hj => (h4 j hj).2.2.2.1)]; exact h3
  have c2 : ∀ o ∈ lowUpto pc (endsB l) l.length l 0, o.at' < l.length ∧ opG o ∧ Reg32 o.imm ∧ outK o.kind = false := fun o ho => ⟨by have := (c o ho).2.1; omega, (c o ho).2.2⟩
  unfold lowAll
  by_cases he : endsB l = true
  · rw [if_pos he]
    have hl2 : 2 ≤ l.length := by
      rcases Nat.lt_or_ge l.length 2 with hx | hx
      · rw [endsB_short hx] at he; cases he
      · exact hx
    have hb := (endsB_at hl2).symm.trans he
    have hR := (h4 (l.length - 2) (by omega)).1
    rw [List.getElem?_eq_getElem (by omega), Option.getD_some]
    obtain ⟨pre, last, e, x1, x2, x3, x4, x5, x6, x7, x8⟩ := lvG (n := l.length - 1) (p := (pc + 4 * ((l.length - 2 : Nat) : Int)) % 4294967296) hb hR.m0 hR.m1
    rw [e, ← List.append_assoc]
    refine code_ok (by omega) h2 (by rw [List.length_append]; omega) (fun o ho => ?_) ?_ (by rw [storesO_app]; omega) (by omega) x5 x6 x7 x8
    · rcases List.mem_append.1 ho with ho | ho
      · exact c2 o ho
      · obtain ⟨y1, y2⟩ := x2 o ho
        exact ⟨by omega, y2⟩
    · refine List.pairwise_append.2 ⟨d, ?_, fun x hx y hy => ?_⟩
      · match pre, x1 with
        | [], _ => exact List.Pairwise.nil
        | [z], _ => exact List.pairwise_singleton _ _
      · rw [(x2 y hy).1]; have := (c2 x hx).1; omega
  · rw [if_neg he]
    exact code_ok (by omega) h2 (by omega) c2 d hst rfl ⟨rfl, rfl, rfl⟩ (r32_mod _) rfl rfl
theorem lowUpto_list (pc : Int) (e : Bool) (n : Nat) : ∀ (l : List InsN) (k : Nat), (e = true → k + l.length + 2 ≤ n) → lowUpto pc e n l k = lowList l k
  | [], k, _ => rfl
  | i :: l, k, h => by
    simp only [lowUpto, lowList]
    rw [lowUpto_list pc e n l (k + 1) (fun he => by have := h he; simp only [List.length_cons] at this; omega)]
    congr 1
    unfold lowAt
    rw [if_neg]
    rintro ⟨he, hk⟩
    have := h he
    simp only [List.length_cons] at this
    omega
theorem lowAll_ends {watch : Nat → Bool} {l : List InsN} (h : regErr l = 0) (hm : ∀ i ∈ l, 0 ≤ i.imm) (X : Regs) (g : GS) (ws : List Int) (hg : GSOK g) (hws : WsOK ws) (hA : Agree X g.r g.hi g.lo) (h0 : g.r 0 = 0) (hs : g.slot = false) (p0 : 0 ≤ g.pc) (p1 : g.pc < 4294967296) (hn : g.next = (g.pc + 4) % 4294967296) :
    EndsAs watch l (lowAll g.pc l) X g ws := by
  obtain ⟨h1, h2, h3, h4⟩ := reg_parts h hm
  have hlen : 0 < l.length := List.length_pos_iff.2 h1
  unfold lowAll
  by_cases he : endsB l = true
  · rw [if_pos he, he]
    have hl2 : 2 ≤ l.length := by
      rcases Nat.lt_or_ge l.length 2 with hx | hx
      · rw [endsB_short hx] at he; cases he
      · exact hx
    have hb := (endsB_at hl2).symm.trans he
    rw [List.getElem?_eq_getElem (by omega), Option.getD_some]
    obtain ⟨p, b, x, rfl⟩ : ∃ p b x, l = p ++ [b, x] := by
      refine ⟨l.take (l.length - 2), l[l.length - 2]'(by omega), l[l.length - 1]'(by omega), ?_⟩
      have e1 : l.drop (l.length - 2) = [l[l.length - 2]'(by omega), l[l.length - 1]'(by omega)] := by
        rw [List.drop_eq_getElem_cons (by omega), List.drop_eq_getElem_cons (by omega)]
        simp only [show l.length - 2 + 1 = l.length - 1 by omega, show l.length - 2 + 1 + 1 = l.length by omega, List.drop_length]
        rw [List.drop_of_length_le (by omega)]
      rw [← e1, List.take_append_drop]
    have hL : (p ++ [b, x]).length = p.length + 2 := by simp
    have hbe : (p ++ [b, x])[(p ++ [b, x]).length - 2]'(by omega) = b := by
      simp only [hL, Nat.add_sub_cancel]
      rw [List.getElem_append_right (Nat.le_refl _)]
      simp
    rw [hbe] at hb ⊢
    have at_ : ∀ j (hj : j < (p ++ [b, x]).length), InsR (p ++ [b, x])[j] ∧ (brOp ((p ++ [b, x])[j]).o = true → j + 2 = (p ++ [b, x]).length) ∧ (brOp ((p ++ [b, x])[j]).o = false → plainOp ((p ++ [b, x])[j]).o = true) := fun j hj => ⟨(h4 j hj).1, (h4 j hj).2.1, (h4 j hj).2.2.1⟩
    have hp : ∀ i ∈ p, plainOp i.o = true ∧ InsOK i := by
      intro i hi
      obtain ⟨j, hj, rfl⟩ := List.getElem_of_mem hi
      obtain ⟨r1, r2, r3⟩ := at_ j (by omega)
      rw [List.getElem_append_left hj] at r1 r2 r3
      refine ⟨r3 ?_, r1.ok⟩
      cases hx : brOp (p[j]).o with
      | false => rfl
      | true => have := r2 hx; omega
    have hbr : InsR b := by
      have := (at_ (p.length) (by omega)).1
      rw [List.getElem_append_right (Nat.le_refl _)] at this
      simpa using this
    have hxr : InsR x ∧ plainOp x.o = true := by
      obtain ⟨r1, r2, r3⟩ := at_ (p.length + 1) (by omega)
      rw [List.getElem_append_right (by omega)] at r1 r2 r3
      simp only [show p.length + 1 - p.length = 1 by omega, List.getElem_cons_succ, List.getElem_cons_zero] at r1 r2 r3
      refine ⟨r1, r3 ?_⟩
      cases hx : brOp x.o with
      | false => rfl
      | true => have := r2 hx; omega
    have hfin := ends_branch (watch := watch) p b x hp hb hbr.ok hxr.2 hxr.1.ok (fun i hi => ⟨hm i (by simp [hi]), by
      obtain ⟨j, hj, rfl⟩ := List.getElem_of_mem hi
      have := (at_ j (by omega)).1.m1
      rw [List.getElem_append_left hj] at this
      omega⟩) X g ws hg hws hA h0 hs p0 p1 hn
    have e : lowUpto g.pc true (p ++ [b, x]).length (p ++ [b, x]) 0 = lowList p 0 ++ (lowBr g.pc b.o b.s.toNat b.t.toNat b.d.toNat p.length ++ lowIns x.o x.s.toNat x.t.toNat x.d.toNat x.imm (p.length + 1)) := by
      rw [lowUpto_app, hL, lowUpto_list g.pc true (p.length + 2) p 0 (fun _ => by omega)]
      simp [lowUpto, lowAt]
    rw [e, hL, show p.length + 2 - 2 = p.length by omega, show p.length + 2 - 1 = p.length + 1 by omega]
    simp only [List.append_assoc] at hfin ⊢
    exact hfin
  · rw [if_neg he]
    have he2 : endsB l = false := by simpa using he
    rw [he2, lowUpto_list g.pc false l.length l 0 (fun e => by cases e)]
    refine ends_plain (watch := watch) l (fun i hi => ?_) X g ws hA h0 hs p0 p1 hn _
    obtain ⟨j, hj, rfl⟩ := List.getElem_of_mem hi
    obtain ⟨r1, r2, r3, _⟩ := h4 j hj
    refine ⟨r3 ?_, r1.ok⟩
    cases hx : brOp (l[j]).o with
    | false => rfl
    | true =>
      have hj2 := r2 hx
      have := endsB_at (l := l) (by omega)
      have e : l.length - 2 = j := by omega
      simp only [e, hx] at this
      rw [this] at he2
      cases he2
end Go.Proofs.YtadoaldnjnkhgaaGreatDoor
namespace Go.Proofs.YtadoaldnjnkhgaaGreatDoor
open Go.RowKit
structure OpsAt (w : World) (g : Nat) (ops : List OpN) : Prop where
  row : ∀ j (h : j < ops.length), w.rangeAt g (j * 6) (opC ops[j])
  lt : g < w.heap.size
theorem OpsAt.cells {w : World} {g : Nat} {ops : List OpN} (h : OpsAt w g ops) (j : Nat) (hj : j < ops.length) :
    w.cell? ⟨g, j * 6, none⟩ = some (.string (bsl ops[j].kind.text)) ∧ w.cell? ⟨g, j * 6 + 1, none⟩ = some (.int .i64 (ops[j].d : Int)) ∧ w.cell? ⟨g, j * 6 + 2, none⟩ = some (.int .i64 (ops[j].a : Int)) ∧ w.cell? ⟨g, j * 6 + 3, none⟩ = some (.int .i64 ops[j].b) ∧ w.cell? ⟨g, j * 6 + 4, none⟩ = some (.int .u32 ops[j].imm) ∧ w.cell? ⟨g, j * 6 + 5, none⟩ = some (.int .i64 (ops[j].at' : Int)) :=
  ⟨h.row j hj 0 _ rfl, h.row j hj 1 _ rfl, h.row j hj 2 _ rfl, h.row j hj 3 _ rfl, h.row j hj 4 _ rfl, h.row j hj 5 _ rfl⟩
theorem OpsAt.of_block {w w' : World} {g : Nat} {ops : List OpN} (h : OpsAt w g ops) (e : w'.heap[g]? = w.heap[g]?) : OpsAt w' g ops where
  row j hj c u hu := by
    have := h.row j hj c u hu
    unfold World.cell? at this ⊢
    simp only at this ⊢
    rw [e]
    exact this
  lt := by
    have h1 := Array.getElem?_eq_getElem h.lt
    rw [h1] at e
    exact (Array.getElem?_eq_some_iff.1 e).1
theorem OpsAt.below {w w' : World} {g B : Nat} {ops : List OpN} (h : OpsAt w g ops) (hb : Below B w w') (hg : g < B) : OpsAt w' g ops := h.of_block (hb.block g hg)
theorem flat6 : ∀ (L : List OpN) (j : Nat) (h : j < L.length) (c : Nat), c < 6 → (L.flatMap opC)[j * 6 + c]? = (opC L[j])[c]?
  | [], j, h, c, hc => absurd h (Nat.not_lt_zero j)
  | i :: t, 0, h, c, hc => by
    rw [List.flatMap_cons, List.getElem?_append_left (by simp [opC]; omega)]
    simp
  | i :: t, j + 1, h, c, hc => by
    rw [List.flatMap_cons, List.getElem?_append_right (by simp [opC]; omega)]
    have := flat6 t j (by simpa using h) c hc
    simp only [opC, List.length_cons, List.length_nil, List.getElem_cons_succ] at this ⊢
    rw [← this]
    congr 1
    omega
theorem opsAt_own {w : World} {B : Nat} {v : Value} {ops : List OpN} (h : w.ownsRow B 86 6 v ops.length (ops.flatMap opC)) (hn : 0 < ops.length) :
    ∃ g cap, v = .slice (some ⟨g, 0, none⟩) ops.length cap ∧ B ≤ g ∧ ops.length ≤ cap ∧ OpsAt w g ops := by
  obtain ⟨hl, h' | ⟨g, cap, cur, hv, hg, hh, hc, _⟩⟩ := id h
  · exact absurd h'.2 (by omega)
  · refine ⟨g, cap, hv, hg, hc, fun j hj c u hu => ?_, (Array.getElem?_eq_some_iff.1 hh).1⟩
    have hc5 : c < 6 := by simpa [opC] using (List.getElem?_eq_some_iff.1 hu).1
    have := h.cells (show v.ownBlock = some g by rw [hv]; rfl) (j * 6 + c) u (by rw [flat6 ops j hj c hc5]; exact hu)
    have ha : (⟨g, 0, none⟩ : Addr).add (j * 6 + c) = ⟨g, j * 6 + c, none⟩ := by
      unfold Addr.add
      simp
      omega
    rw [ha] at this
    exact this
theorem text_ne {k : OpK} (h : k ≠ .store) : ((bsl k.text).toList == [115, 116, 111, 114, 101]) = false := by
  cases k <;> first | exact absurd rfl h | decide +kernel
theorem storesO_take (ops : List OpN) (j : Nat) (h : j < ops.length) : storesO (ops.take (j + 1)) = storesO (ops.take j) + (if storeK ops[j].kind = true then 1 else 0) := by
  rw [List.take_add_one, storesO_app, List.getElem?_eq_getElem h]
  congr 1
  unfold storesO
  by_cases e : storeK ops[j].kind = true
  · rw [if_pos e]; simp [e]
  · rw [if_neg e]; simp [e]
set_option maxHeartbeats 1000000 in
theorem storesOf_any {w : World} {g cap : Nat} {ops : List OpN} (h : OpsAt w g ops) (hl : ops.length ≤ 100) :
    Calls Tryz.prog 27 #[.slice (some ⟨g, 0, none⟩) ops.length cap] w fun e w' => e = .returned (.int .i64 (storesO ops : Int)) ∧ w = w' := by
  have HO := Lib.hid h
  have hl2 : (ops.length : Int) ≤ 100 := by omega
  have HL := Lib.hid hl
  clear h hl
  go_enter Tryz.func27, Tryz.ntmps27
  go_wp2_with fail
  go_loop [3, 4] (fun s i => ∃ j : Nat, j ≤ ops.length ∧ s = .int .i64 (storesO (ops.take j) : Int) ∧ i = .int .i64 (j : Int)) (fun _ i => ops.length - (intOf i).toNat)
  case atStart => exact ⟨0, Nat.zero_le _, rfl, rfl⟩
  case round =>
    obtain ⟨j, hj, rfl, rfl⟩ := hrel
    by_cases hlt : j < ops.length
    · obtain ⟨c0, _⟩ := HO.out.cells j hlt
      have hjI : (j : Int) < (ops.length : Int) := by omega
      have hs0 : storesO (ops.take j) ≤ 100 := by
        have h1 : storesO (ops.take j) ≤ (ops.take j).length := List.length_filter_le _ _
        have h2 : (ops.take j).length ≤ ops.length := by rw [List.length_take]; omega
        have := HL.out
        omega
      have hs1 : (storesO (ops.take j) : Int) ≤ 100 := by omega
      have hs2 : (0 : Int) ≤ (storesO (ops.take j) : Int) := by omega
      have HT := Lib.hid (storesO_take ops j hlt)
      clear hs0
      by_cases hk : ops[j].kind = .store
      · have HT2 : Hid ((storesO (ops.take (j + 1)) : Int) = (storesO (ops.take j) : Int) + 1) := by
          show _ = _
          have := HT.out
          rw [hk, if_pos (show storeK OpK.store = true from rfl)] at this
          omega
        rw [hk] at c0
        have c0' : w.cell? ⟨g, j * 6, none⟩ = some (.string ⟨#[115, 116, 111, 114, 101]⟩) := c0
        clear c0 hk
        generalize storesO (ops.take j) = s0 at *
        go_wp2
        go_round
        case rel => exact ⟨j + 1, by omega, by rw [HT2.out], by go_num⟩
        case measure => simp [intOf]; omega
      · have HT2 : Hid ((storesO (ops.take (j + 1)) : Int) = (storesO (ops.take j) : Int)) := by
          show _ = _
          have := HT.out
          rw [if_neg (by cases hh : ops[j].kind <;> first | exact absurd hh hk | decide)] at this
          omega
        have n1 := text_ne hk
        generalize bsl ops[j].kind.text = kt at *
        clear hk
        generalize storesO (ops.take j) = s0 at *
        go_wp2
        go_round
        case rel => exact ⟨j + 1, by omega, by rw [HT2.out], by go_num⟩
        case measure => simp [intOf]; omega
    · obtain rfl : j = ops.length := by omega
      have HE : Hid (ops.take ops.length = ops) := Lib.hid (List.take_length)
      go_wp2
      go_ret
      exact ⟨rfl, rfl⟩
theorem fine_any (w : World) : Calls Tryz.prog 30 #[] w fun e w' => e = .returned (.agg #[.int .i64 0, .int .i64 (-1)]) ∧ Below w.heap.size w w' := by
  have HB := Lib.hid ((Below.refl w.heap.size w).alloc (Nat.le_refl _) (.cells #[.int .i64 0, .int .i64 (-1)] 45))
  go_enter Tryz.func30, Tryz.ntmps30
  go_wp2
  exact bodyPost_ret (v := .agg #[.int .i64 0, .int .i64 (-1)]) (by simp [results, Tryz.results30, go_sem]) rfl ⟨rfl, HB.out⟩
abbrev Duo (w : World) (b : Nat) (t : TypeId) (a0 a1 : Value) : Prop := w.heap[b]? = some (.cells #[a0, a1] t (0, 0))
theorem Duo.cells {w : World} {b : Nat} {t : TypeId} {a0 a1 : Value} (h : Duo w b t a0 a1) : w.cell? ⟨b, 0, none⟩ = some a0 ∧ w.cell? ⟨b, 1, none⟩ = some a1 ∧ w.frozen? ⟨b, 0, none⟩ = false ∧ w.frozen? ⟨b, 1, none⟩ = false := by
  unfold Duo at h
  refine ⟨?_, ?_, ?_, ?_⟩ <;> simp [World.cell?, World.frozen?, h]
abbrev fill2 (w : World) (b : Nat) (v0 v1 : Value) : World := (w.setCell ⟨b, 0, none⟩ v0).setCell ⟨b, 1, none⟩ v1
theorem Duo.fill {w : World} {b : Nat} {t : TypeId} {a0 a1 : Value} (h : Duo w b t a0 a1) (v0 v1 : Value) : Duo (fill2 w b v0 v1) b t v0 v1 := Joins.block_setCell (Joins.block_setCell h v0) v1
theorem below_fill2 {B : Nat} {a w : World} (h : Below B a w) {b : Nat} (hb : B ≤ b) (v0 v1 : Value) : Below B a (fill2 w b v0 v1) := (h.setCell hb _).setCell hb _
set_option maxHeartbeats 4000000 in
theorem codeFault_ok {w : World} {g cap many : Nat} {ops : List OpN} (h : OpsAt w g ops) (hc : CodeOK many ops) :
    Calls Tryz.prog 9 #[.int .i64 (many : Int), .slice (some ⟨g, 0, none⟩) ops.length cap] w fun e w' => e = .returned (.agg #[.int .i64 0, .int .i64 (-1)]) ∧ Below w.heap.size w w' := by
  have hS := Lib.hid (fun wx (hb : Below w.heap.size w wx) => storesOf_any (cap := cap) (h.below hb h.lt) hc.len)
  have HC := Lib.hid hc
  have m0 : (1 : Int) ≤ (many : Int) := by have := hc.m0; omega
  have m1 : (many : Int) ≤ 24 := by have := hc.m1; omega
  have l0 : (0 : Int) < (ops.length : Int) := by have := hc.ne; omega
  have l1 : (ops.length : Int) ≤ 100 := by have := hc.len; omega
  have l2 : ((ops.length : Int) == 0) = false := by simp only [beq_eq_false_iff_ne, ne_eq]; omega
  have s1 : (storesO ops : Int) ≤ 8 := by have := hc.st; omega
  have hAl := (Below.refl w.heap.size w).alloc (Nat.le_refl _) (.cells #[.int .i64 0, .int .i64 0] 45)
  have HAL := Lib.hid hAl
  obtain ⟨z, hz⟩ : ∃ z : Nat, ops.length = z + 1 := ⟨ops.length - 1, by have := hc.ne; omega⟩
  have hzl : z < ops.length := by omega
  have hz2 : (ops.length : Int) - 1 = (z : Int) := by omega
  have hz3 : (z : Int) < (ops.length : Int) := by omega
  obtain ⟨c0, c1, c2, c3, c4, c5⟩ := (h.below hAl h.lt).cells z hzl
  have HO := Lib.hid (h.below hAl h.lt)
  have hout := hc.out z hzl
  rw [decide_eq_true (by omega)] at hout
  have HOUT : Hid (∀ wx, Calls Tryz.prog 28 #[opA (bsl ops[z].kind.text) ops[z].d ops[z].a ops[z].b ops[z].imm ops[z].at'] wx fun e w' => e = .returned (.bool true) ∧ Below wx.heap.size wx w') := by
    refine Lib.hid ?_
    intro wx
    have := isOut_any ops[z] wx
    rw [hout] at this
    exact this
  have hg := h.lt
  have HG := Lib.hid hg
  clear hAl hout h hc hz
  generalize bsl ops[z].kind.text = kt at *
  generalize ops[z].d = od at *
  generalize ops[z].a = oa at *
  generalize ops[z].b = ob at *
  generalize ops[z].imm = oi at *
  generalize ops[z].at' = oat at *
  go_enter Tryz.func9, Tryz.ntmps9
  go_wp2_with fail
  generalize hwa : w.alloc (.cells #[.int .i64 0, .int .i64 0] 45) = wa at *
  (with_reducible refine (hS.out _ HAL.out).mono ?_)
  rintro e w1 ⟨rfl, rfl⟩
  go_wp2_with fail
  (with_reducible refine (HOUT.out _).mono ?_)
  rintro e w2 ⟨rfl, hb2⟩
  have HB2 := Lib.hid hb2
  have HO2 := Lib.hid (HO.out.of_block (hb2.block g HO.out.lt))
  have hwas : wa.heap.size = w.heap.size + 1 := by rw [← hwa]; simp
  have HWS := Lib.hid hwas
  have HD0 : Hid (Duo wa w.heap.size 45 (.int .i64 0) (.int .i64 0)) := by
    refine Lib.hid ?_
    rw [← hwa]
    exact heap_alloc_new w _
  clear hb2 c0 c1 c2 c3 c4 c5 hwas
  go_wp2_with fail
  go_loopw [6] (fun i wr => ∃ j : Nat, j ≤ ops.length ∧ i = .int .i64 (j : Int) ∧ Hid (Below w2.heap.size w2 wr)) (fun i _ => ops.length - (intOf i).toNat)
  case atStart => exact ⟨0, Nat.zero_le _, rfl, Lib.hid (Below.refl _ _)⟩
  case round =>
    obtain ⟨j, hj, rfl, HBj⟩ := hrel
    by_cases hlt : j < ops.length
    · have hjI : (j : Int) < (ops.length : Int) := by omega
      have HOj := Lib.hid (HO2.out.of_block (HBj.out.block g HO2.out.lt))
      obtain ⟨c0, c1, c2, c3, c4, c5⟩ := HOj.out.cells j hlt
      have hgood := HC.out.good ops[j] (List.getElem_mem hlt)
      have HE := Lib.hid (fun wx => opError_any ops[j] many hgood.1 hgood.2.1 wx)
      have HI := Lib.hid (fun wx => isOut_any ops[j] wx)
      rw [HC.out.out j hlt] at HI
      clear hgood
      have HJ := Lib.hid hlt
      have HKEEP0 : Hid (∀ wx, Below wr.heap.size wr wx → wx.cell? ⟨g, j * 6, none⟩ = some (.string (bsl (ops[j]'hlt).kind.text)) ∧ wx.cell? ⟨g, j * 6 + 1, none⟩ = some (.int .i64 ((ops[j]'hlt).d : Int)) ∧ wx.cell? ⟨g, j * 6 + 2, none⟩ = some (.int .i64 ((ops[j]'hlt).a : Int)) ∧ wx.cell? ⟨g, j * 6 + 3, none⟩ = some (.int .i64 (ops[j]'hlt).b) ∧ wx.cell? ⟨g, j * 6 + 4, none⟩ = some (.int .u32 (ops[j]'hlt).imm) ∧ wx.cell? ⟨g, j * 6 + 5, none⟩ = some (.int .i64 ((ops[j]'hlt).at' : Int))) := Lib.hid fun wx hbx => (HOj.out.of_block (hbx.block g HOj.out.lt)).cells j hlt
      have HAT0 : Hid (∀ m (hm : j = m + 1), ((ops[m]'(by omega)).at' : Int) ≤ ((ops[j]'hlt).at' : Int)) := by
        refine Lib.hid ?_
        intro m hm
        have hsort := HC.out.sorted m (by omega)
        subst hm
        omega
      generalize ops[j]'hlt = oj at *
      by_cases hlast : j + 1 = ops.length
      · by_cases hj0 : j = 0
        · have hd1 : decide ((j : Int) + 1 < (ops.length : Int)) = false := decide_eq_false (by omega)
          rw [decide_eq_true hlast] at HI
          have hd2 : (j : Int) ≤ 0 := by omega
          obtain ⟨ok, od1, oa1, ob1, oi1, ot1⟩ := oj
          simp only at c0 c1 c2 c3 c4 c5 HE HI HKEEP0 HAT0
          obtain ⟨kt, hkt⟩ : ∃ kt, bsl ok.text = kt := ⟨_, rfl⟩
          rw [hkt] at c0 HE HI HKEEP0
          have HKEEP := HKEEP0
          clear hkt hj0 hlast
          go_wp2_with fail
          (with_reducible refine (HE.out _).mono ?_)
          rintro e w3 ⟨rfl, hb3⟩
          obtain ⟨e0, e1, e2, e3, e4, e5⟩ := HKEEP.out w3 hb3
          have HB3 := Lib.hid hb3
          clear hb3 c0 c1 c2 c3 c4 c5
          go_wp2_with fail
          (with_reducible refine (HI.out _).mono ?_)
          rintro e w4 ⟨rfl, hb4⟩
          have hb34 : Below wr.heap.size wr w4 := HB3.out.trans (hb4.mono HB3.out.size)
          have HB4 := Lib.hid hb34
          clear hb4 e0 e1 e2 e3 e4 e5
          obtain ⟨c0, c1, c2, c3, c4, c5⟩ := HKEEP.out w4 hb34
          clear hb34
          go_wp2
          refine ⟨⟨j + 1, by have := HJ.out; omega, by go_num, Lib.hid (HBj.out.trans (HB4.out.mono HBj.out.size))⟩, ?_⟩
          simp [intOf]
          have := HJ.out
          omega
        · have hd1 : decide ((j : Int) + 1 < (ops.length : Int)) = false := decide_eq_false (by omega)
          rw [decide_eq_true hlast] at HI
          have hd2 : (0 : Int) < (j : Int) := by omega
          obtain ⟨m, hm⟩ : ∃ m : Nat, j = m + 1 := ⟨j - 1, by omega⟩
          have hmI : (j : Int) - 1 = (m : Int) := by omega
          have hmw : IntKind.i64.wrap ((j : Int) - 1) = (m : Int) := by rw [hmI]; exact IntWalk.i64_in _ ⟨by omega, by omega⟩
          have hmL : m < ops.length := by omega
          have hmIL : (m : Int) < (ops.length : Int) := by omega
          obtain ⟨ok, od1, oa1, ob1, oi1, ot1⟩ := oj
          simp only at c0 c1 c2 c3 c4 c5 HE HI HKEEP0 HAT0
          obtain ⟨kt, hkt⟩ : ∃ kt, bsl ok.text = kt := ⟨_, rfl⟩
          rw [hkt] at c0 HE HI HKEEP0
          have HKEEP := HKEEP0
          have HAT := Lib.hid (HAT0.out m hm)
          obtain ⟨ot2, hot2⟩ : ∃ x, (ops[m]'hmL).at' = x := ⟨_, rfl⟩
          have HKM : Hid (∀ wx, Below wr.heap.size wr wx → wx.cell? ⟨g, m * 6 + 5, none⟩ = some (.int .i64 (ot2 : Int))) := by
            refine Lib.hid ?_
            intro wx hbx
            have hx := ((HOj.out.of_block (hbx.block g HOj.out.lt)).cells m hmL).2.2.2.2.2
            rw [hot2] at hx
            exact hx
          rw [hot2] at HAT
          clear hkt hot2 hm hmL hj0 hlast
          go_wp2_with fail
          (with_reducible refine (HE.out _).mono ?_)
          rintro e w3 ⟨rfl, hb3⟩
          obtain ⟨e0, e1, e2, e3, e4, e5⟩ := HKEEP.out w3 hb3
          have HB3 := Lib.hid hb3
          clear hb3 c0 c1 c2 c3 c4 c5
          go_wp2_with fail
          (with_reducible refine (HI.out _).mono ?_)
          rintro e w4 ⟨rfl, hb4⟩
          have hb34 : Below wr.heap.size wr w4 := HB3.out.trans (hb4.mono HB3.out.size)
          have HB4 := Lib.hid hb34
          clear hb4 e0 e1 e2 e3 e4 e5
          obtain ⟨c0, c1, c2, c3, c4, c5⟩ := HKEEP.out w4 hb34
          have cm := HKM.out w4 hb34
          have hat2 := HAT.out
          clear hb34
          go_wp2_with fail
          go_quiet (fail)
          go_wp2
          refine ⟨⟨j + 1, by have := HJ.out; omega, by go_num, Lib.hid (HBj.out.trans ((blw_drewN HB4.out _).mono HBj.out.size))⟩, ?_⟩
          simp [intOf]
          have := HJ.out
          omega
      · by_cases hj0 : j = 0
        · rw [decide_eq_false hlast] at HI
          have hd2 : (j : Int) ≤ 0 := by omega
          obtain ⟨ok, od1, oa1, ob1, oi1, ot1⟩ := oj
          simp only at c0 c1 c2 c3 c4 c5 HE HI HKEEP0 HAT0
          obtain ⟨kt, hkt⟩ : ∃ kt, bsl ok.text = kt := ⟨_, rfl⟩
          rw [hkt] at c0 HE HI HKEEP0
          have HKEEP := HKEEP0
          clear hkt hj0 hlast
          go_wp2_with fail
          (with_reducible refine (HE.out _).mono ?_)
          rintro e w3 ⟨rfl, hb3⟩
          obtain ⟨e0, e1, e2, e3, e4, e5⟩ := HKEEP.out w3 hb3
          have HB3 := Lib.hid hb3
          clear hb3 c0 c1 c2 c3 c4 c5
          go_wp2_with fail
          (with_reducible refine (HI.out _).mono ?_)
          rintro e w4 ⟨rfl, hb4⟩
          have hb34 : Below wr.heap.size wr w4 := HB3.out.trans (hb4.mono HB3.out.size)
          have HB4 := Lib.hid hb34
          clear hb4 e0 e1 e2 e3 e4 e5
          obtain ⟨c0, c1, c2, c3, c4, c5⟩ := HKEEP.out w4 hb34
          clear hb34
          go_wp2
          refine ⟨⟨j + 1, by have := HJ.out; omega, by go_num, Lib.hid (HBj.out.trans (HB4.out.mono HBj.out.size))⟩, ?_⟩
          simp [intOf]
          have := HJ.out
          omega
        · rw [decide_eq_false hlast] at HI
          have hd2 : (0 : Int) < (j : Int) := by omega
          obtain ⟨m, hm⟩ : ∃ m : Nat, j = m + 1 := ⟨j - 1, by omega⟩
          have hmI : (j : Int) - 1 = (m : Int) := by omega
          have hmw : IntKind.i64.wrap ((j : Int) - 1) = (m : Int) := by rw [hmI]; exact IntWalk.i64_in _ ⟨by omega, by omega⟩
          have hmL : m < ops.length := by omega
          have hmIL : (m : Int) < (ops.length : Int) := by omega
          obtain ⟨ok, od1, oa1, ob1, oi1, ot1⟩ := oj
          simp only at c0 c1 c2 c3 c4 c5 HE HI HKEEP0 HAT0
          obtain ⟨kt, hkt⟩ : ∃ kt, bsl ok.text = kt := ⟨_, rfl⟩
          rw [hkt] at c0 HE HI HKEEP0
          have HKEEP := HKEEP0
          have HAT := Lib.hid (HAT0.out m hm)
          obtain ⟨ot2, hot2⟩ : ∃ x, (ops[m]'hmL).at' = x := ⟨_, rfl⟩
          have HKM : Hid (∀ wx, Below wr.heap.size wr wx → wx.cell? ⟨g, m * 6 + 5, none⟩ = some (.int .i64 (ot2 : Int))) := by
            refine Lib.hid ?_
            intro wx hbx
            have hx := ((HOj.out.of_block (hbx.block g HOj.out.lt)).cells m hmL).2.2.2.2.2
            rw [hot2] at hx
            exact hx
          rw [hot2] at HAT
          clear hkt hot2 hm hmL hj0 hlast
          go_wp2_with fail
          (with_reducible refine (HE.out _).mono ?_)
          rintro e w3 ⟨rfl, hb3⟩
          obtain ⟨e0, e1, e2, e3, e4, e5⟩ := HKEEP.out w3 hb3
          have HB3 := Lib.hid hb3
          clear hb3 c0 c1 c2 c3 c4 c5
          go_wp2_with fail
          (with_reducible refine (HI.out _).mono ?_)
          rintro e w4 ⟨rfl, hb4⟩
          have hb34 : Below wr.heap.size wr w4 := HB3.out.trans (hb4.mono HB3.out.size)
          have HB4 := Lib.hid hb34
          clear hb4 e0 e1 e2 e3 e4 e5
          obtain ⟨c0, c1, c2, c3, c4, c5⟩ := HKEEP.out w4 hb34
          have cm := HKM.out w4 hb34
          have hat2 := HAT.out
          clear hb34
          go_wp2_with fail
          go_quiet (fail)
          go_wp2
          refine ⟨⟨j + 1, by have := HJ.out; omega, by go_num, Lib.hid (HBj.out.trans ((blw_drewN HB4.out _).mono HBj.out.size))⟩, ?_⟩
          simp [intOf]
          have := HJ.out
          omega
    · obtain rfl : j = ops.length := by omega
      have hD : Duo wr w.heap.size 45 (.int .i64 0) (.int .i64 0) := (HBj.out.block w.heap.size (by have := HB2.out.size; have := HWS.out; omega)).trans ((HB2.out.block w.heap.size (by have := HWS.out; omega)).trans HD0.out)
      have HD := Lib.hid hD
      clear hD
      go_wp2_with fail
      refine (fine_any _).mono ?_
      rintro e w5 ⟨rfl, hb5⟩
      have hlt5 : w.heap.size < wr.heap.size := (Array.getElem?_eq_some_iff.1 HD.out).1
      have HD5 : Duo w5 w.heap.size 45 (.int .i64 0) (.int .i64 0) := (hb5.block w.heap.size hlt5).trans HD.out
      have HB5 : Hid (Below w.heap.size w w5) := Lib.hid (HAL.out.trans ((HB2.out.mono (by have := HWS.out; omega)).trans ((HBj.out.mono (by have := HB2.out.size; have := HWS.out; omega)).trans (hb5.mono (by omega)))))
      obtain ⟨k0, k1, f0, f1⟩ := Duo.cells HD5
      have HD6 := Duo.fill HD5 (.int .i64 0) (.int .i64 (-1))
      have HB6 := Lib.hid (below_fill2 HB5.out (Nat.le_refl w.heap.size) (.int .i64 0) (.int .i64 (-1)))
      clear hb5 HD5 hlt5
      go_wp2
      change bodyPost _ _ _ _ _ (fill2 w5 w.heap.size (.int .i64 0) (.int .i64 (-1)))
      clear k0 k1 f0 f1
      generalize fill2 w5 w.heap.size (.int .i64 0) (.int .i64 (-1)) = W6 at *
      obtain ⟨k0, k1, _⟩ := Duo.cells HD6
      exact bodyPost_ret (v := .agg #[.int .i64 0, .int .i64 (-1)]) (by simp [results, Tryz.results9, go_sem, k0, k1]) rfl ⟨rfl, HB6.out⟩
end Go.Proofs.YtadoaldnjnkhgaaGreatDoor
