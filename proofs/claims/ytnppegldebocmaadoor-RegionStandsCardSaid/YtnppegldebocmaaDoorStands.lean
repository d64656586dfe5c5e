/- The walk of the law RegionStands: true for every words, place and room. Conditions: as each theorem states. -/
import Derived.Test.YtnppegldebocmaaDoorStandB
namespace Go.Proofs.YtnppegldebocmaaDoor
open Go.RowKit
set_option linter.unusedVariables false
theorem Rg.below {w w' : World} {b B : Nat} {v0 v1 v2 : Value} (h : Rg w b v0 v1 v2) (hb : Below B w w') (hB : b < B) : Rg w' b v0 v1 v2 := (hb.block b hB).trans h
theorem Rg.lt {w : World} {b : Nat} {v0 v1 v2 : Value} (h : Rg w b v0 v1 v2) : b < w.heap.size := (Array.getElem?_eq_some_iff.1 h).1
theorem slot_kinds (W : Nat → Int) (n : Nat) (h : kindOfB (slotI W n).op ≠ trapL) : kindOfB (slotI W n).op = [98, 114, 97, 110, 99, 104] ∨ kindOfB (slotI W n).op = [108, 111, 97, 100] ∨ kindOfB (slotI W n).op = [115, 116, 111, 114, 101] ∨ kindOfB (slotI W n).op = [115, 117, 109] := by
  have hd : ∀ y, kindOfB (decZ y).op ≠ trapL → kindOfB (decZ y).op = [98, 114, 97, 110, 99, 104] ∨ kindOfB (decZ y).op = [108, 111, 97, 100] ∨ kindOfB (decZ y).op = [115, 116, 111, 114, 101] ∨ kindOfB (decZ y).op = [115, 117, 109] := by
    intro y hy
    obtain ⟨j, hj, e⟩ := decZ_op y
    rw [e] at hy ⊢
    rcases kindOf_cases j hj with q | q | q | q | q
    · exact Or.inl q
    · exact Or.inr (Or.inl q)
    · exact Or.inr (Or.inr (Or.inl q))
    · exact absurd q hy
    · exact Or.inr (Or.inr (Or.inr q))
  unfold slotI at h ⊢
  split at h
  · rename_i hn
    rw [if_pos hn]
    exact hd _ h
  · rename_i hn
    rw [if_neg hn]
    exact hd _ h
theorem stI_not (i : InsN) (l : List UInt8) (h : kindOfB i.op = l) (hl : l ≠ storeL) : stI i = 0 := by unfold stI; rw [if_neg (by rw [h]; exact hl)]
theorem kind_lit2 (i : InsN) (l : List UInt8) (h : kindOfB i.op = l) (w : World) : Calls Tryd.prog 10 #[.int .i64 i.op] w fun e w' => e = .returned (.string (bsl l)) ∧ Below w.heap.size w w' := by
  rw [← h]
  exact kindOf_any i.op w
set_option maxHeartbeats 4000000 in
set_option maxRecDepth 100000 in
theorem stands_walk (a : Option Addr) (len cap : Nat) (ws : Nat → Int) (m : Nat) (hws : ∀ k, k < m → 0 ≤ ws k ∧ ws k < 4294967296) (pc : Int) (p0 : 0 ≤ pc) (p1 : pc < 4294967296) (most : Int) (vB vK : Value) (tN tA tF : TypeId) (pN pA pF : Value) (w : World) (hS : E5 w vB vK tN tA tF pN pA pF)
    (hNew : len ≤ 5000 → ∀ W, Below w.heap.size w W → Calls Tryd.prog 14 #[.slice a len cap] W fun e w' => ∃ r bb, e = .returned (.pointer (some ⟨r, 0, none⟩)) ∧ W.heap.size ≤ r ∧ W.heap.size ≤ bb ∧ r < w'.heap.size ∧ RamAt w' r bb (memK ws m) ∧ Below W.heap.size W w') :
    Calls Tryd.prog 4 #[.slice a len cap, .int .u32 pc, .int .i64 most] w fun e w' => e = .returned (.bool true) ∧ Below w.heap.size w w' := by
  have HS := Lib.hid hS
  have HNW := Lib.hid hNew
  have HWS := Lib.hid hws
  have HP1 := Lib.hid p1
  clear hS hNew hws p1
  go_enter Tryd.func4, Tryd.ntmps4
  go_wp2_with fail
  refine (formed_ok vB vK tN tA tF pN pA pF w HS.out).mono ?_
  rintro e w1 ⟨rfl, hb1⟩
  have HE1 := Lib.hid (HS.out.below hb1)
  have HB1 := Lib.hid hb1
  clear hb1
  by_cases hl : (5000 : Int) < (len : Int)
  · go_wp2
    go_ret
    exact ⟨rfl, HB1.out⟩
  by_cases hm1 : most < 2
  · go_wp2
    go_ret
    exact ⟨rfl, HB1.out⟩
  by_cases hm2 : 24 ≤ most
  · go_wp2
    go_ret
    exact ⟨rfl, HB1.out⟩
  go_wp2_with fail
  refine (HNW.out (by omega) w1 HB1.out).mono ?_
  rintro e w2 ⟨r, bb, rfl, hr1, hbb1, hr2, hR, hb2⟩
  have HR2 := Lib.hid (ramW_new hR HWS.out)
  have HE2 := Lib.hid (HE1.out.below hb2)
  have HB2 := Lib.hid (HB1.out.trans (hb2.mono HB1.out.size))
  have HM : Hid (2 ≤ most ∧ most < 24) := by show _ ∧ _; omega
  have HD1 : Hid (decide ((5000 : Int) < (len : Int)) = false) := decide_eq_false (by omega)
  clear hr1 hbb1 hr2 hR hb2 hl hm1 hm2
  generalize memW ws m = W at *
  by_cases hp : ¬ pc % 4 = 0 ∨ 16384 ≤ pc
  · go_wp2_with fail
    refine (form_bad r most (by have := HM.out; omega) pc p0 HP1.out hp tF tA pF pA w2 HE2.out.f HE2.out.a).mono ?_
    rintro e w3 ⟨hb3, t, p, rfl⟩
    have HB3 := Lib.hid (HB2.out.trans (hb3.mono HB2.out.size))
    have HB4 := Lib.hid (HB3.out.alloc HB3.out.size (.cells #[.int .u32 0, .slice none 0 0, .slice none 0 0] 37))
    clear hb3 hp
    go_wp2
    go_ret
    exact ⟨rfl, HB4.out⟩
  · obtain ⟨k0, hk0⟩ : ∃ k0 : Nat, 4 * (k0 : Int) = pc := ⟨(pc / 4).toNat, by omega⟩
    have hk1 : (k0 : Int) < 4096 := by omega
    have hF := form_some r bb W most (by have := HM.out; omega) k0 hk1 tF pF _ w2 HR2.out HE2.out.f HE2.out.n
    rw [hk0] at hF
    have HF := Lib.hid hF
    have HK0 := Lib.hid hk0
    have HK1 := Lib.hid hk1
    clear hF hk0 hk1 hp
    obtain ⟨st1, st2, st3⟩ := endN_stands W k0 most 30 0 (by have := HM.out; omega) (Stands.zero W k0) (fun j hj => absurd hj (Nat.not_lt_zero j))
    have HST1 := Lib.hid st1
    have HST2 := Lib.hid st2
    have HST3 := Lib.hid st3
    have HMO := Lib.hid (endN_more W k0 most 30 0)
    clear st1 st2 st3
    generalize hn : endN W k0 most 30 0 = n at *
    clear hn
    go_wp2_with fail
    refine HF.out.mono ?_
    rintro e w3 ⟨hb3, h3⟩
    have HB3 := Lib.hid (HB2.out.trans (hb3.mono HB2.out.size))
    rcases h3 with ⟨h3, rfl⟩ | ⟨hn0, vi, a2, n2, c2, rfl, hown⟩
    · have HB4 := Lib.hid (HB3.out.alloc HB3.out.size (.cells #[.int .u32 0, .slice none 0 0, .slice none 0 0] 37))
      clear hb3
      go_wp2
      go_ret
      exact ⟨rfl, HB4.out⟩
    · obtain ⟨g, capg, rfl, hg1, hg2, hgc, hrow⟩ := insRow_own hown (by rw [slots_len]) hn0
      have HROW := Lib.hid hrow
      have HR3 := Lib.hid (HR2.out.below hb3 HR2.out.lt.1 HR2.out.lt.2)
      have HE3 := Lib.hid (HE2.out.below hb3)
      clear hb3 hown hrow
      go_wp2_with fail
      have hal := (Below.refl w3.heap.size w3).alloc (Nat.le_refl _) (.cells #[.int .u32 pc, .slice (some ⟨g, 0, none⟩) n capg, .slice a2 n2 c2] 37)
      have hg4 : Rg (w3.alloc (.cells #[.int .u32 pc, .slice (some ⟨g, 0, none⟩) n capg, .slice a2 n2 c2] 37)) w3.heap.size (.int .u32 pc) (.slice (some ⟨g, 0, none⟩) n capg) (.slice a2 n2 c2) := heap_alloc_new w3 _
      have hlt4 := hg4.lt
      have HB4 := Lib.hid (HB3.out.trans (hal.mono HB3.out.size))
      have HR4 := Lib.hid (HR3.out.below hal HR3.out.lt.1 HR3.out.lt.2)
      have HE4 := Lib.hid (HE3.out.below hal)
      have HW4 := Lib.hid (HROW.out.below hal hg2)
      have hlg : g < (w3.alloc (.cells #[.int .u32 pc, .slice (some ⟨g, 0, none⟩) n capg, .slice a2 n2 c2] 37)).heap.size := Nat.lt_of_lt_of_le hg2 hal.size
      clear hal hg2 HROW
      generalize w3.alloc (.cells #[.int .u32 pc, .slice (some ⟨g, 0, none⟩) n capg, .slice a2 n2 c2] 37) = w4 at *
      generalize w3.heap.size = rb at *
      refine (words_W r bb W w4 HR4.out).mono ?_
      rintro e w5 ⟨gw, rfl, hgw1, hgw2, hwd, hb5⟩
      have HB5 := Lib.hid (HB4.out.trans (hb5.mono HB4.out.size))
      have HR5 := Lib.hid (HR4.out.below hb5 HR4.out.lt.1 HR4.out.lt.2)
      have HE5 := Lib.hid (HE4.out.below hb5)
      have HW5 := Lib.hid (HW4.out.below hb5 hlg)
      have HD5 := Lib.hid hwd
      have HG5 := Lib.hid (hg4.below hb5 hlt4)
      have hlg5 := Nat.lt_of_lt_of_le hlg hb5.size
      have hrb5 := Nat.lt_of_lt_of_le hlt4 hb5.size
      clear hg4 hlt4 hlg hb5 hwd hgw1 HB3 HR3 HE3 HB4 HR4 HE4 HW4
      obtain ⟨q0, q1, q2, _⟩ := Rg.cells HG5.out
      go_wp2_with fail
      have d1 : decide ((5000 : Int) < (len : Int)) = false := HD1.out
      have d2 : decide (most < 2) = false := decide_eq_false (by have := HM.out; omega)
      have d3 : decide (24 ≤ most) = false := decide_eq_false (by have := HM.out; omega)
      simp only [d1, d2, d3, Bool.or_false]
      clear d1 d2 d3 q0 q1 q2
      have hnm : (n : Int) ≤ most := HST2.out
      have hml : most < 24 := HM.out.2
      go_loopw [12, 13, 14] (fun s b i wr => ∃ (k : Nat) (bz : Int), k ≤ n ∧ i = .int .i64 (k : Int) ∧ s = .int .i64 (stN W k0 k) ∧ b = .int .i64 bz ∧ Hid (bz = 0 ∨ (bz = 1 ∧ (n : Int) ≤ (k : Int) + 1)) ∧ Below w5.heap.size w5 wr) (fun _ _ i _ => n - (intOf i).toNat)
      case atStart => exact ⟨0, 0, Nat.zero_le _, rfl, rfl, rfl, Or.inl rfl, Below.refl _ _⟩
      case round =>
        obtain ⟨k, bz, hk, rfl, rfl, rfl, HBZ, hbr⟩ := hrel
        have HBR := Lib.hid hbr
        have HGR := Lib.hid (HG5.out.below hbr hrb5)
        have HRW := Lib.hid (HW5.out.below hbr hlg5)
        have HER := Lib.hid (HE5.out.below hbr)
        have HDR : Hid (∀ j, j < 4096 → wr.cell? ⟨gw, j, none⟩ = some (.int .u32 (W j))) := fun j hj => (hbr.cell hgw2).trans (HD5.out j hj)
        have hlgr := Nat.lt_of_lt_of_le hlg5 hbr.size
        have hrbr := Nat.lt_of_lt_of_le hrb5 hbr.size
        clear hbr
        obtain ⟨q0, q1, q2, _⟩ := Rg.cells HGR.out
        by_cases hlt : k < n
        · have hj : k < (slots W k0 n).length := by rw [slots_len]; exact hlt
          obtain ⟨x0, x1, x2, x3, x4⟩ := InsRow.cells HRW.out k hj
          have hx : (slots W k0 n)[k] = slotI W (k0 + k) := by simp [slots]
          rw [hx] at x0 x1 x2 x3 x4
          obtain ⟨hs1, hs2⟩ := HST1.out.slot k hlt
          have hc := HDR.out (k0 + k) hs1
          obtain ⟨hw0, hw1⟩ := HR5.out.range (k0 + k) hs1
          have HEN := Lib.hid (fun W' (hW : E5 W' vB vK tN tA tF pN pA pF) => enc_slot W (k0 + k) hs1 hw0 hw1 hs2 vK vB W' hW.k hW.b)
          have HS2 := Lib.hid hs2
          have HS1 := Lib.hid hs1
          have hq : pc.tdiv 4 = (k0 : Int) := by rw [← HK0.out]; exact Int.mul_tdiv_cancel_left _ (by decide)
          clear hj hx hs2 hw0 hw1
          have hs1' : (k0 : Int) + (k : Int) < 4096 := by have := HS1.out; omega
          have hpc : pc < 16384 := by have := HK0.out; have := HK1.out; omega
          have e4 : ((k0 : Int) + (k : Int)).toNat = k0 + k := by omega
          clear hs1
          go_wp2_with fail
          refine (HEN.out _ HER.out).mono ?_
          rintro e w6 ⟨rfl, hb6⟩
          have HB6 := Lib.hid (HBR.out.trans (hb6.mono HBR.out.size))
          have HG6 := Lib.hid (HGR.out.below hb6 hrbr)
          have HRW6 := Lib.hid (HRW.out.below hb6 hlgr)
          have hc6 := (hb6.cell (by exact World.block_lt_of_cell? _ _ hc)).trans hc
          have hrb6 := Nat.lt_of_lt_of_le hrbr hb6.size
          clear hb6 hc x0 x1 x2 x3 x4 q0 q1 q2
          obtain ⟨q0, q1, q2, _⟩ := Rg.cells HG6.out
          have hj : k < (slots W k0 n).length := by rw [slots_len]; exact hlt
          obtain ⟨x0, x1, x2, x3, x4⟩ := InsRow.cells HRW6.out k hj
          have hx : (slots W k0 n)[k] = slotI W (k0 + k) := by simp [slots]
          rw [hx] at x0 x1 x2 x3 x4
          clear hj hx
          generalize hxx : slotI W (k0 + k) = x at *
          have HXX := Lib.hid hxx
          clear hxx
          go_wp2_with fail
          have HKC := slot_kinds W (k0 + k) (by rw [HXX.out]; exact HS2.out)
          rw [HXX.out] at HKC
          have HSN : Hid (stN W k0 (k + 1) = stN W k0 k + stI x) := by show _ = _; rw [stN, HXX.out]
          obtain ⟨hs0, hs9⟩ := stN_range W k0 k
          generalize stN W k0 k = st at *
          rcases HKC with hk5 | hk5 | hk5 | hk5
          · have hkn := HST3.out k hlt (by rw [HXX.out]; exact hk5)
            have hz : bz = 0 := HBZ.out.elim id (fun e => by omega)
            subst hz
            have hkz : (n : Int) - 2 = (k : Int) := by omega
            have HKL : Hid (∀ W', Calls Tryd.prog 10 #[.int .i64 x.op] W' fun e w' => e = .returned (.string ⟨#[98, 114, 97, 110, 99, 104]⟩) ∧ Below W'.heap.size W' w') := fun W' => kind_lit2 x _ hk5 W'
            have HSI := Lib.hid (stI_not x _ hk5 (by decide))
            have HKN := Lib.hid hkn
            clear hk5 hkn
            refine (HKL.out w6).mono ?_
            rintro e w7 ⟨rfl, hb7⟩
            have HB7 := Lib.hid (HB6.out.trans (hb7.mono HB6.out.size))
            have HG7 := HG6.out.below hb7 hrb6
            clear hb7 q0 q1 q2 x0 x1 x2 x3 x4
            obtain ⟨q0, q1, q2, _⟩ := Rg.cells HG7
            clear HG7
            go_wp2
            go_roundw
            case rel => exact ⟨k + 1, 1, by omega, by go_num, by rw [HSN.out, HSI.out, Int.add_zero], rfl, Or.inr ⟨rfl, by have := HKN.out; omega⟩, HB7.out⟩
            case measure => simp [intOf]; omega
          · have HKL : Hid (∀ W', Calls Tryd.prog 10 #[.int .i64 x.op] W' fun e w' => e = .returned (.string ⟨#[108, 111, 97, 100]⟩) ∧ Below W'.heap.size W' w') := fun W' => kind_lit2 x _ hk5 W'
            have HSI := Lib.hid (stI_not x _ hk5 (by decide))
            clear hk5
            refine (HKL.out w6).mono ?_
            rintro e w7 ⟨rfl, hb7⟩
            have HB7 := Lib.hid (HB6.out.trans (hb7.mono HB6.out.size))
            have HG7 := HG6.out.below hb7 hrb6
            clear hb7 q0 q1 q2 x0 x1 x2 x3 x4
            obtain ⟨q0, q1, q2, _⟩ := Rg.cells HG7
            clear HG7
            go_wp2
            go_roundw
            case rel => exact ⟨k + 1, bz, by omega, by go_num, by rw [HSN.out, HSI.out, Int.add_zero], rfl, HBZ.out.imp id (fun h => ⟨h.1, by omega⟩), HB7.out⟩
            case measure => simp [intOf]; omega
          · have HKL : Hid (∀ W', Calls Tryd.prog 10 #[.int .i64 x.op] W' fun e w' => e = .returned (.string ⟨#[115, 116, 111, 114, 101]⟩) ∧ Below W'.heap.size W' w') := fun W' => kind_lit2 x _ hk5 W'
            have HSI : Hid (stI x = 1) := by show _ = _; unfold stI; rw [if_pos (by rw [hk5]; rfl)]
            clear hk5
            refine (HKL.out w6).mono ?_
            rintro e w7 ⟨rfl, hb7⟩
            have HB7 := Lib.hid (HB6.out.trans (hb7.mono HB6.out.size))
            have HG7 := HG6.out.below hb7 hrb6
            clear hb7 q0 q1 q2 x0 x1 x2 x3 x4
            obtain ⟨q0, q1, q2, _⟩ := Rg.cells HG7
            clear HG7
            go_wp2
            go_roundw
            case rel => exact ⟨k + 1, bz, by omega, by go_num, by rw [HSN.out, HSI.out], rfl, HBZ.out.imp id (fun h => ⟨h.1, by omega⟩), HB7.out⟩
            case measure => simp [intOf]; omega
          · have HKL : Hid (∀ W', Calls Tryd.prog 10 #[.int .i64 x.op] W' fun e w' => e = .returned (.string ⟨#[115, 117, 109]⟩) ∧ Below W'.heap.size W' w') := fun W' => kind_lit2 x _ hk5 W'
            have HSI := Lib.hid (stI_not x _ hk5 (by decide))
            clear hk5
            refine (HKL.out w6).mono ?_
            rintro e w7 ⟨rfl, hb7⟩
            have HB7 := Lib.hid (HB6.out.trans (hb7.mono HB6.out.size))
            have HG7 := HG6.out.below hb7 hrb6
            clear hb7 q0 q1 q2 x0 x1 x2 x3 x4
            obtain ⟨q0, q1, q2, _⟩ := Rg.cells HG7
            clear HG7
            go_wp2
            go_roundw
            case rel => exact ⟨k + 1, bz, by omega, by go_num, by rw [HSN.out, HSI.out, Int.add_zero], rfl, HBZ.out.imp id (fun h => ⟨h.1, by omega⟩), HB7.out⟩
            case measure => simp [intOf]; omega
        · have hkn : k = n := by omega
          subst hkn
          have HF2 := form_some r bb W (most + 1) (by have := HM.out; omega) k0 HK1.out tF pF _ wr (HR5.out.below HBR.out HR5.out.lt.1 HR5.out.lt.2) HER.out.f HER.out.n
          have hmo := HMO.out
          generalize endN W k0 (most + 1) 30 0 = nn at *
          rw [HK0.out] at HF2
          have HF3 := Lib.hid HF2
          have HST : Hid (stN W k0 k ≤ 8) := HST1.out.sto
          obtain ⟨hs0, hs9⟩ := stN_range W k0 k
          have hs8 : stN W k0 k ≤ 8 := HST.out
          generalize stN W k0 k = st at *
          have hz0 : 0 ≤ bz ∧ bz ≤ 1 := by rcases HBZ.out with e | e <;> omega
          obtain ⟨hz1, hz2⟩ := hz0
          have hb2 := HBR.out
          have HBW := Lib.hid (HB5.out.trans (HBR.out.mono HB5.out.size))
          clear HF2 hb2
          go_wp2_with fail
          refine HF3.out.mono ?_
          rintro e w6 ⟨hb6, h6⟩
          rcases h6 with ⟨h6, _⟩ | ⟨hnn, vi3, a3, n3, c3, rfl, hown3⟩
          · exact absurd h6 (by omega)
          obtain ⟨g3, cap3, rfl, hg31, hg32, hgc3, hrow3⟩ := insRow_own hown3 (by rw [slots_len]) hnn
          have HB6 := Lib.hid (HBW.out.trans (hb6.mono HBW.out.size))
          have HG6 := HGR.out.below hb6 hrbr
          have hrb6 := Nat.lt_of_lt_of_le hrbr hb6.size
          have hlg6 := Nat.lt_of_lt_of_le hlgr hb6.size
          have HI6 := Lib.hid (HRW.out.below hb6 hlgr)
          have HJ6 : Hid (InsRow w6 g3 (slots W k0 k)) := by
            show InsRow _ _ _
            intro j hj
            have hj2 : j < (slots W k0 nn).length := by rw [slots_len] at hj ⊢; omega
            have e : (slots W k0 k)[j] = (slots W k0 nn)[j] := by simp [slots]
            rw [e]
            exact hrow3 j hj2
          clear hb6 hown3 hrow3 q0 q1 q2
          have hal := (Below.refl w6.heap.size w6).alloc (Nat.le_refl _) (.cells #[.int .u32 pc, .slice (some ⟨g3, 0, none⟩) nn cap3, .slice a3 n3 c3] 37)
          have HB7 := Lib.hid (HB6.out.trans (hal.mono HB6.out.size))
          have hg7 : Rg (w6.alloc (.cells #[.int .u32 pc, .slice (some ⟨g3, 0, none⟩) nn cap3, .slice a3 n3 c3] 37)) w6.heap.size (.int .u32 pc) (.slice (some ⟨g3, 0, none⟩) nn cap3) (.slice a3 n3 c3) := heap_alloc_new w6 _
          have hG7 := HG6.below hal hrb6
          have HI7 := Lib.hid (HI6.out.below hal hlg6)
          have HJ7 := Lib.hid (HJ6.out.below hal hg32)
          have hlg7 := Nat.lt_of_lt_of_le hlg6 hal.size
          have hg37 := Nat.lt_of_lt_of_le hg32 hal.size
          clear hal HG6
          obtain ⟨q0, q1, q2, _⟩ := Rg.cells hG7
          obtain ⟨y0, y1, y2, _⟩ := Rg.cells hg7
          have HC : Hid (∀ Q, Below (w6.alloc (.cells #[.int .u32 pc, .slice (some ⟨g3, 0, none⟩) nn cap3, .slice a3 n3 c3] 37)).heap.size (w6.alloc (.cells #[.int .u32 pc, .slice (some ⟨g3, 0, none⟩) nn cap3, .slice a3 n3 c3] 37)) Q → Calls Tryd.prog 18 #[.slice (some ⟨g3, 0, none⟩) k cap3, .slice (some ⟨g, 0, none⟩) k capg] Q fun e w' => e = .returned (.bool true) ∧ Below Q.heap.size Q w') := fun Q hQ =>
            same_ok g g3 k capg cap3 (by omega) hgc (by omega) (slots W k0 k) (slots_len W k0 k) Q (HI7.out.below hQ hlg7) (HJ7.out.below hQ hg37) (Nat.lt_of_lt_of_le hlg7 hQ.size) (Nat.lt_of_lt_of_le hg37 hQ.size)
          go_wp2_with fail
          generalize w6.alloc (.cells #[.int .u32 pc, .slice (some ⟨g3, 0, none⟩) nn cap3, .slice a3 n3 c3] 37) = w7 at *
          have hB7w : Below w7.heap.size w7 w7 := Below.refl _ _
          have hkc : (k : Int) ≤ (cap3 : Int) := by omega
          have hk0' : (0 : Int) ≤ (k : Int) := by omega
          have hkn' : (k : Int) ≤ (nn : Int) := by omega
          clear q0 q2 y0 y2
          go_region_held3 (fun w' => (w'.cell? ⟨rb, 1, none⟩ = some (.slice (some ⟨g, 0, none⟩) k capg) ∧ w'.cell? ⟨w6.heap.size, 1, none⟩ = some (.slice (some ⟨g3, 0, none⟩) nn cap3) ∧ Below w7.heap.size w7 w'))
            ((go_split_ands; refine ⟨?_, ?_, ?_⟩ <;> (first | assumption | (rw [hb9.cell (World.block_lt_of_cell? _ _ (by assumption))]; assumption) | exact Below.drew (by assumption) | exact Below.trans (by assumption) (hb9.mono (Below.size (by assumption))) | (simp [go_sem, *]; done))))
            ((go_at_call 18; go_split_ands; refine (HC.out _ (by assumption)).mono ?_; rintro e w' ⟨rfl, hb9⟩))
          go_split_ands
          have hb10 : Below w7.heap.size w7 w' := by assumption
          go_wp2
          go_ret
          exact ⟨rfl, HB7.out.trans (hb10.mono HB7.out.size)⟩
end Go.Proofs.YtnppegldebocmaaDoor
