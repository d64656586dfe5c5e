/- The document's EncodeOf answers as the program's Encode does: the ways of the walk joined. Conditions: as each theorem states. -/
import Derived.Test.YtnppegldebocmaaGreatDoorEncOf
import Derived.Test.YtnppegldebocmaaGreatDoorEncQ
namespace Go.Proofs.YtnppegldebocmaaGreatDoor
open Go.RowKit
set_option linter.unusedSimpArgs false
set_option linter.unusedVariables false
theorem enc_sum (i : InsN) (k : Nat) (hk : k < 54) (hop : i.op = (k : Int)) (m0 : 0 ≤ i.imm) (h : encBad i = false) :
    encL i (fieldsB k) = (fixedN k : Int) + i.s * 2097152 + i.t * 65536 + i.d * 2048 + (if (fieldsB k).contains 97 then i.imm * 64 else i.imm) ∧ wellB i.s ((fieldsB k).contains 83) = true ∧ wellB i.t ((fieldsB k).contains 84) = true ∧ wellB i.d ((fieldsB k).contains 68) = true ∧ i.imm ≤ mostZ (fieldsB k) := by
  have h2 := h
  rw [encBad_eq i k hop m0] at h2
  simp only [Bool.not_eq_false', Bool.and_eq_true, decide_eq_true_eq] at h2
  obtain ⟨⟨⟨hS, hT⟩, hD⟩, hm⟩ := h2
  obtain ⟨g1, _, _⟩ := good_parts i k hop h
  obtain ⟨e1, _, _, _⟩ := enc_parts i k hk hop g1
  refine ⟨?_, hS, hT, hD, hm⟩
  rw [e1, encN_sum i k hk g1]
  obtain ⟨op, s, t, d, m⟩ := i
  simp only at m0
  rcases fields_cases k with e | e | e | e | e | e | e | e | e | e | e | e
  all_goals
    rw [e] at hS hT hD hm
    rw [e]
    simp [wellB, mostZ] at hS hT hD hm
    simp [termN, termF]
    omega
/-- What EncodeOf answers. -/
def encOfR (i : InsN) : Value := if i.op < 1 ∨ 54 ≤ i.op then .tuple #[.int .u32 0, .int .i64 4] else if encBad i then .tuple #[.int .u32 0, .int .i64 2] else .tuple #[.int .u32 (encL i (fieldsB i.op.toNat)), .int .i64 0]
theorem fields_len (k : Nat) : (fieldsB k).length ≤ 100 := by
  rcases fields_cases k with e | e | e | e | e | e | e | e | e | e | e | e <;> rw [e] <;> decide
theorem minor_lt (k : Nat) : minorN k < 64 := (nums_small k).2.1
theorem fixed_0n (k : Nat) (h : majorN k = 0) : fixedN k = minorN k := by unfold fixedN; rw [if_pos h]
theorem fixed_mn (k : Nat) (h : ¬ majorN k = 0) (h2 : ¬ majorN k = 16) : fixedN k = majorN k * 67108864 := by unfold fixedN; rw [if_neg h, if_neg h2]
theorem fixed_16n (k : Nat) (h : majorN k = 16) : fixedN k = 1073741824 + minorN k * 2097152 + (if minorN k = 16 then 24 else 0) := by unfold fixedN; rw [if_neg (by omega), if_pos h]
theorem encOf_good (op s t d m : Int) (k : Nat) (h1 : 1 ≤ k) (hk : k < 54) (hop : op = (k : Int)) (m0 : 0 ≤ m) (hg : encBad ⟨op, s, t, d, m⟩ = false) (w : World) :
    Calls Tryz.prog 9 #[.agg #[.int .i64 op, .int .i64 s, .int .i64 t, .int .i64 d, .int .u32 m]] w fun e w' => e = .returned (.tuple #[.int .u32 (encL ⟨op, s, t, d, m⟩ (fieldsB k)), .int .i64 0]) ∧ Below w.heap.size w w' := by
  obtain ⟨hs, w83, w84, w68, wm⟩ := enc_sum ⟨op, s, t, d, m⟩ k hk hop m0 hg
  simp only at hs w83 w84 w68 wm
  have hR : rowIs (k : Int) (majorN k) (minorN k) (bsl (nameB k)) (bsl (orderB k)) (bsl (kindB k)) (bsl (fieldsB k)) := fun W => rowOf_at k h1 hk W
  rw [← hop] at hR
  have i83 : isOfIs (bsl (fieldsB k)) 83 ((fieldsB k).contains 83) := fun W => isOf_lit _ (fields_len k) 83 83 (by decide) _ rfl W
  have i84 : isOfIs (bsl (fieldsB k)) 84 ((fieldsB k).contains 84) := fun W => isOf_lit _ (fields_len k) 84 84 (by decide) _ rfl W
  have i68 : isOfIs (bsl (fieldsB k)) 68 ((fieldsB k).contains 68) := fun W => isOf_lit _ (fields_len k) 68 68 (by decide) _ rfl W
  have i97 : isOfIs (bsl (fieldsB k)) 97 ((fieldsB k).contains 97) := fun W => isOf_lit _ (fields_len k) 97 97 (by decide) _ rfl W
  have i105 : isOfIs (bsl (fieldsB k)) 105 ((fieldsB k).contains 105) := fun W => isOf_lit _ (fields_len k) 105 105 (by decide) _ rfl W
  have i106 : isOfIs (bsl (fieldsB k)) 106 ((fieldsB k).contains 106) := fun W => isOf_lit _ (fields_len k) 106 106 (by decide) _ rfl W
  have f83 : wellIs s ((fieldsB k).contains 83) true := fun W => fieldWell_any s _ true w83 W
  have f84 : wellIs t ((fieldsB k).contains 84) true := fun W => fieldWell_any t _ true w84 W
  have f68 : wellIs d ((fieldsB k).contains 68) true := fun W => fieldWell_any d _ true w68 W
  have hmi := minor_lt k
  have o0 : 1 ≤ op := by omega
  have o1 : op < 54 := by omega
  have hfit : ∀ z, z = encL ⟨op, s, t, d, m⟩ (fieldsB k) → ∀ (e : Ending) (w' : World), (e = .returned (.tuple #[.int .u32 z, .int .i64 0]) ∧ Below w.heap.size w w') → (e = .returned (.tuple #[.int .u32 (encL ⟨op, s, t, d, m⟩ (fieldsB k)), .int .i64 0]) ∧ Below w.heap.size w w') := fun z hz e w' h => by rw [← hz]; exact h
  rcases tab_6 k hk with ⟨h0, hl⟩ | ⟨h0, hl⟩ | ⟨h0, h16, hl⟩
  · rw [fixed_0n k h0] at hs
    rw [show ((majorN k : Nat) : Int) = 0 by omega] at hR
    clear hop
    rcases hl with e | e | e | e | e | e | e
    all_goals
      rw [e] at w83 w84 w68 wm
      simp [wellB, mostZ] at w83 w84 w68 wm
      first
      | have c97 : (fieldsB k).contains 97 = false := by rw [e]; decide
        have c105 : (fieldsB k).contains 105 = false := by rw [e]; decide
        have c106 : (fieldsB k).contains 106 = false := by rw [e]; decide
        rw [c97] at i97 hs
        rw [c105] at i105
        rw [c106] at i106
        simp only [if_true, if_false, Bool.false_eq_true] at hs
        refine (encof_0 (minorN k) (by omega) (by omega) op s t d m _ _ _ _ _ _ _ o0 o1 (by omega) (by omega) (by omega) (by omega) (by omega) (by omega) m0 (by omega) hR i83 i84 i68 i97 i105 i106 f83 f84 f68 w).mono (hfit _ ?_)
        rw [hs] <;> omega
      | have c97 : (fieldsB k).contains 97 = true := by rw [e]; decide
        have c105 : (fieldsB k).contains 105 = false := by rw [e]; decide
        have c106 : (fieldsB k).contains 106 = false := by rw [e]; decide
        rw [c97] at i97 hs
        rw [c105] at i105
        rw [c106] at i106
        simp only [if_true, if_false, Bool.false_eq_true] at hs
        refine (encof_0a (minorN k) (by omega) (by omega) op s t d m _ _ _ _ _ _ _ o0 o1 (by omega) (by omega) (by omega) (by omega) (by omega) (by omega) m0 (by omega) hR i83 i84 i68 i97 i105 i106 f83 f84 f68 w).mono (hfit _ ?_)
        rw [hs] <;> omega
  · rw [fixed_16n k h0] at hs
    rw [show ((majorN k : Nat) : Int) = 16 by omega] at hR
    clear hop
    have hmm := (nums_small k).2.2 h0
    rcases hl with ⟨e, hn⟩ | ⟨e, hn⟩
    · rw [if_neg hn] at hs
      rw [e] at w83 w84 w68 wm
      simp [wellB, mostZ] at w83 w84 w68 wm
      have c97 : (fieldsB k).contains 97 = false := by rw [e]; decide
      have c105 : (fieldsB k).contains 105 = false := by rw [e]; decide
      have c106 : (fieldsB k).contains 106 = false := by rw [e]; decide
      rw [c97] at i97 hs
      rw [c105] at i105
      rw [c106] at i106
      simp only [if_true, if_false, Bool.false_eq_true] at hs
      refine (encof_16 (minorN k) (by omega) (by omega) (beq_eq_false_iff_ne.2 (by omega)) op s t d m _ _ _ _ _ _ _ o0 o1 (by omega) (by omega) (by omega) (by omega) (by omega) (by omega) m0 (by omega) hR i83 i84 i68 i97 i105 i106 f83 f84 f68 w).mono (hfit _ ?_)
      rw [hs] <;> omega
    · rw [if_pos hn] at hs
      rw [show ((minorN k : Nat) : Int) = 16 by omega] at hR
      rw [e] at w83 w84 w68 wm
      simp [wellB, mostZ] at w83 w84 w68 wm
      have c97 : (fieldsB k).contains 97 = false := by rw [e]; decide
      have c105 : (fieldsB k).contains 105 = false := by rw [e]; decide
      have c106 : (fieldsB k).contains 106 = false := by rw [e]; decide
      rw [c97] at i97 hs
      rw [c105] at i105
      rw [c106] at i106
      simp only [if_true, if_false, Bool.false_eq_true] at hs
      refine (encof_24 op s t d m _ _ _ _ _ _ _ o0 o1 (by omega) (by omega) (by omega) (by omega) (by omega) (by omega) m0 (by omega) hR i83 i84 i68 i97 i105 i106 f83 f84 f68 w).mono (hfit _ ?_)
      rw [hs] <;> omega
  · rw [fixed_mn k h0 h16] at hs
    have hma := (nums_small k).1
    have z0 : ((majorN k : Int) == 0) = false := beq_eq_false_iff_ne.2 (by omega)
    have z1 : ((majorN k : Int) == 16) = false := beq_eq_false_iff_ne.2 (by omega)
    rcases hl with e | e | e | e
    all_goals
      rw [e] at w83 w84 w68 wm
      simp [wellB, mostZ] at w83 w84 w68 wm
      first
      | have c97 : (fieldsB k).contains 97 = false := by rw [e]; decide
        have c105 : (fieldsB k).contains 105 = true := by rw [e]; decide
        have c106 : (fieldsB k).contains 106 = false := by rw [e]; decide
        rw [c97] at i97 hs
        rw [c105] at i105
        rw [c106] at i106
        simp only [if_true, if_false, Bool.false_eq_true] at hs
        refine (encof_i (majorN k) (minorN k) (by omega) (by omega) z0 z1 op s t d m _ _ _ _ _ _ _ o0 o1 (by omega) (by omega) (by omega) (by omega) (by omega) (by omega) m0 (by omega) hR i83 i84 i68 i97 i105 i106 f83 f84 f68 w).mono (hfit _ ?_)
        rw [hs] <;> omega
      | have c97 : (fieldsB k).contains 97 = false := by rw [e]; decide
        have c105 : (fieldsB k).contains 105 = false := by rw [e]; decide
        have c106 : (fieldsB k).contains 106 = true := by rw [e]; decide
        rw [c97] at i97 hs
        rw [c105] at i105
        rw [c106] at i106
        simp only [if_true, if_false, Bool.false_eq_true] at hs
        refine (encof_j (majorN k) (minorN k) (by omega) (by omega) z0 z1 op s t d m _ _ _ _ _ _ _ o0 o1 (by omega) (by omega) (by omega) (by omega) (by omega) (by omega) m0 (by omega) hR i83 i84 i68 i97 i105 i106 f83 f84 f68 w).mono (hfit _ ?_)
        rw [hs] <;> omega
theorem encOf_bad (op s t d m : Int) (k : Nat) (h1 : 1 ≤ k) (hk : k < 54) (hop : op = (k : Int)) (m0 : 0 ≤ m) (m1 : m < 4294967296) (hg : encBad ⟨op, s, t, d, m⟩ = true) (w : World) :
    Calls Tryz.prog 9 #[.agg #[.int .i64 op, .int .i64 s, .int .i64 t, .int .i64 d, .int .u32 m]] w fun e w' => e = .returned (.tuple #[.int .u32 0, .int .i64 2]) ∧ Below w.heap.size w w' := by
  rw [encBad_eq _ k hop m0] at hg
  have hR : rowIs (k : Int) (majorN k) (minorN k) (bsl (nameB k)) (bsl (orderB k)) (bsl (kindB k)) (bsl (fieldsB k)) := fun W => rowOf_at k h1 hk W
  rw [← hop] at hR
  have i83 : isOfIs (bsl (fieldsB k)) 83 ((fieldsB k).contains 83) := fun W => isOf_lit _ (fields_len k) 83 83 (by decide) _ rfl W
  have i84 : isOfIs (bsl (fieldsB k)) 84 ((fieldsB k).contains 84) := fun W => isOf_lit _ (fields_len k) 84 84 (by decide) _ rfl W
  have i68 : isOfIs (bsl (fieldsB k)) 68 ((fieldsB k).contains 68) := fun W => isOf_lit _ (fields_len k) 68 68 (by decide) _ rfl W
  have i97 : isOfIs (bsl (fieldsB k)) 97 ((fieldsB k).contains 97) := fun W => isOf_lit _ (fields_len k) 97 97 (by decide) _ rfl W
  have i105 : isOfIs (bsl (fieldsB k)) 105 ((fieldsB k).contains 105) := fun W => isOf_lit _ (fields_len k) 105 105 (by decide) _ rfl W
  have i106 : isOfIs (bsl (fieldsB k)) 106 ((fieldsB k).contains 106) := fun W => isOf_lit _ (fields_len k) 106 106 (by decide) _ rfl W
  cases hS : wellB s ((fieldsB k).contains 83)
  · exact encof_b1 _ _ op s t d m _ _ _ _ _ _ _ false _ _ (by omega) (by omega) m0 m1 hR i83 i84 i68 (fun W => fieldWell_any s _ false hS W) (fun W => fieldWell_any t _ _ rfl W) (fun W => fieldWell_any d _ _ rfl W) w
  · cases hT : wellB t ((fieldsB k).contains 84)
    · exact encof_b2 _ _ op s t d m _ _ _ _ _ _ _ false false _ (by omega) (by omega) m0 m1 hR i83 i84 i68 (fun W => fieldWell_any s _ true hS W) (fun W => fieldWell_any t _ false hT W) (fun W => fieldWell_any d _ _ rfl W) w
    · cases hD : wellB d ((fieldsB k).contains 68)
      · exact encof_b3 _ _ op s t d m _ _ _ _ _ _ _ false false false (by omega) (by omega) m0 m1 hR i83 i84 i68 (fun W => fieldWell_any s _ true hS W) (fun W => fieldWell_any t _ true hT W) (fun W => fieldWell_any d _ false hD W) w
      · have hm : mostZ (fieldsB k) < m := by
          rw [hS, hT, hD] at hg
          simp at hg
          exact hg
        have f83 : wellIs s ((fieldsB k).contains 83) true := fun W => fieldWell_any s _ true hS W
        have f84 : wellIs t ((fieldsB k).contains 84) true := fun W => fieldWell_any t _ true hT W
        have f68 : wellIs d ((fieldsB k).contains 68) true := fun W => fieldWell_any d _ true hD W
        clear hg hS hT hD
        rcases fields_cases k with e | e | e | e | e | e | e | e | e | e | e | e
        all_goals
          rw [e] at hm
          simp [mostZ] at hm
          first
          | have c97 : (fieldsB k).contains 97 = false := by rw [e]; decide
            have c105 : (fieldsB k).contains 105 = false := by rw [e]; decide
            have c106 : (fieldsB k).contains 106 = false := by rw [e]; decide
            rw [c97] at i97
            rw [c105] at i105
            rw [c106] at i106
            exact encof_m0 _ _ op s t d m _ _ _ _ _ _ _ false false false (by omega) (by omega) m0 m1 hR i83 i84 i68 i97 i105 i106 (by omega) f83 f84 f68 w
          | have c97 : (fieldsB k).contains 97 = true := by rw [e]; decide
            have c105 : (fieldsB k).contains 105 = false := by rw [e]; decide
            have c106 : (fieldsB k).contains 106 = false := by rw [e]; decide
            rw [c97] at i97
            rw [c105] at i105
            rw [c106] at i106
            exact encof_ma _ _ op s t d m _ _ _ _ _ _ _ false false false (by omega) (by omega) m0 m1 hR i83 i84 i68 i97 i105 i106 (by omega) f83 f84 f68 w
          | have c97 : (fieldsB k).contains 97 = false := by rw [e]; decide
            have c105 : (fieldsB k).contains 105 = true := by rw [e]; decide
            have c106 : (fieldsB k).contains 106 = false := by rw [e]; decide
            rw [c97] at i97
            rw [c105] at i105
            rw [c106] at i106
            exact encof_mi _ _ op s t d m _ _ _ _ _ _ _ false false false (by omega) (by omega) m0 m1 hR i83 i84 i68 i97 i105 i106 (by omega) f83 f84 f68 w
          | have c97 : (fieldsB k).contains 97 = false := by rw [e]; decide
            have c105 : (fieldsB k).contains 105 = false := by rw [e]; decide
            have c106 : (fieldsB k).contains 106 = true := by rw [e]; decide
            rw [c97] at i97
            rw [c105] at i105
            rw [c106] at i106
            exact encof_mj _ _ op s t d m _ _ _ _ _ _ _ false false false (by omega) (by omega) m0 m1 hR i83 i84 i68 i97 i105 i106 (by omega) f83 f84 f68 w
end Go.Proofs.YtnppegldebocmaaGreatDoor
