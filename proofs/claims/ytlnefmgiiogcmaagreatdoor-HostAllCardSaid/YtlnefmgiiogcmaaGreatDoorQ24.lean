/- The walk of ir's Load, through stores that wait. Conditions: as each theorem states. -/
import Derived.Test.YtlnefmgiiogcmaaGreatDoorQ23
import Derived.Test.YtlnefmgiiogcmaaGreatDoorQ20
set_option linter.unusedVariables false
set_option linter.unusedSimpArgs false
namespace Go.Proofs.YtlnefmgiiogcmaaGreatDoor
open Go.RowKit
structure WaitAt (w : World) (g : Nat) (W : List StoW) : Prop where
  row : ∀ j (h : j < W.length), w.cell? ⟨g, j * 3, none⟩ = some (.int .u32 (W[j]'h).addr) ∧ w.cell? ⟨g, j * 3 + 1, none⟩ = some (.int .i64 (W[j]'h).size) ∧ w.cell? ⟨g, j * 3 + 2, none⟩ = some (.int .u32 (W[j]'h).v)
  lt : g < w.heap.size
theorem WaitAt.below {w w' : World} {g : Nat} {W : List StoW} (h : WaitAt w g W) (hb : Below w.heap.size w w') : WaitAt w' g W where
  row j hj := by
    obtain ⟨c0, c1, c2⟩ := h.row j hj
    have e := hb.block g h.lt
    exact ⟨(World.cell?_of_block (a := ⟨g, _, none⟩) e).trans c0, (World.cell?_of_block (a := ⟨g, _, none⟩) e).trans c1, (World.cell?_of_block (a := ⟨g, _, none⟩) e).trans c2⟩
  lt := Nat.lt_of_lt_of_le h.lt hb.size
theorem wide_load (ws : List Int) (a k : Nat) (hk : k = 1 ∨ k = 2 ∨ k = 4) : wideZ (loadN ws a k) k false = loadN ws a k := by
  have h := load_ok ws a k
  unfold wideZ
  rcases hk with rfl | rfl | rfl
  · have h2 : loadN ws a 1 < 256 := h.2
    have h1 := h.1
    simp
    omega
  · have h2 : loadN ws a 2 < 65536 := h.2
    have h1 := h.1
    simp
    omega
  · rfl
theorem gather_u32 (g : Nat → Int) (hg : ∀ i, 0 ≤ g i ∧ g i < 256) (k : Nat) (hk : k = 1 ∨ k = 2 ∨ k = 4) : Reg32 (gather g k) := by
  have h := gather_range g hg k
  exact ⟨h.1, Int.lt_of_lt_of_le h.2 (by rcases hk with rfl | rfl | rfl <;> decide)⟩
theorem three_cells {w : World} {b : Nat} {t : TypeId} {a0 a1 a2 : Value} (h : w.heap[b]? = some (Obj.cells #[a0, a1, a2] t (0, 0))) : w.cell? ⟨b, 0, none⟩ = some a0 ∧ w.cell? ⟨b, 1, none⟩ = some a1 ∧ w.cell? ⟨b, 2, none⟩ = some a2 := by
  refine ⟨?_, ?_, ?_⟩ <;> simp [World.cell?, h]
theorem and_byte (x : Int) (h0 : 0 ≤ x) (h1 : x < 4294967296) : bits .and .u32 x 255 = x % 256 := by
  obtain ⟨m, rfl⟩ := Int.eq_ofNat_of_zero_le h0
  rw [show (255 : Int) = ((255 : Nat) : Int) from rfl, u32_and_nat m 255 (by omega) (by omega)]
  have : m &&& 255 = m % 256 := Nat.and_two_pow_sub_one_eq_mod m 8
  rw [this]
  omega
section
variable {w : World} {r bb mw mh n : Nat} {ws : List Int} {wt ht : Nat → Bool}
set_option maxHeartbeats 4000000 in
set_option maxRecDepth 100000 in
theorem loadP_yes (h : RamP w r bb mw mh ws wt ht n) {mb g cap : Nat} {X : Regs} {W : List StoW} (hm : MpB w mb X (.pointer (some ⟨r, 0, none⟩)) (.slice (some ⟨g, 0, none⟩) W.length cap)) (hw : WaitAt w g W) (hW : ∀ s ∈ W, StoOK s) (hWl : W.length ≤ 8)
    (a k : Nat) (hk : k = 1 ∨ k = 2 ∨ k = 4) (hr : reach (a : Int) k = true) (b : Int) (hb : b = (k : Int) ∨ b = -(k : Int)) (mx : max b (-b) = (k : Int)) :
    Calls Tryz.prog 58 #[.pointer (some ⟨mb, 0, none⟩), .int .u32 (a : Int), .int .i64 b] w fun e w' => e = .returned (.tuple #[.int .u32 (wideZ (loadN (applyW ws W) a k) k (decide (b < 0))), .bool true]) ∧ Below w.heap.size w w' := by
  have hr2 := of_decide_eq_true hr
  have ha : a < 16384 := by have := hr2.2; omega
  have hak : a + k ≤ 16384 := by
    have := hr2.1
    rcases hk with rfl | rfl | rfl <;> omega
  have hld := ramLoad_yes h a k hk hr false
  rw [wide_load ws a k hk, ← partG_zero ws W a k] at hld
  have HLD := Lib.hid hld
  have hfin := wide_any (loadN (applyW ws W) a k) (by rw [← partG_all]; exact gather_u32 _ (fun i => partG_ok _ _ _ _ _ i) k hk) k hk (decide (b < 0))
  have HFIN := Lib.hid hfin
  have m64 : w.cell? ⟨mb, 64, none⟩ = some (.pointer (some ⟨r, 0, none⟩)) := hm.cell (show 64 < 66 by decide)
  have HM := Lib.hid hm
  have HW := Lib.hid hw
  have HOK := Lib.hid (And.intro h.ok h.len)
  have HWW := Lib.hid hW
  have HK := Lib.hid hk
  have HAK := Lib.hid hak
  have b0 : -4 ≤ b ∧ b ≤ 4 := by rcases hb with e | e <;> rcases hk with f | f | f <;> subst f <;> omega
  obtain ⟨b0, b1⟩ := b0
  have hwn : IntKind.i64.wrap (-b) = -b := IntWalk.i64_in _ ⟨by omega, by omega⟩
  have hkI : (1 : Int) ≤ (k : Int) ∧ (k : Int) ≤ 4 := by rcases hk with rfl | rfl | rfl <;> decide
  obtain ⟨k0, k1⟩ := hkI
  have haI : (a : Int) < 16384 := by omega
  have hWI : (W.length : Int) ≤ 8 := by omega
  clear h hm hw hr hr2 hld hfin ha hak hk hW hWl hb
  go_enter Tryz.func58, Tryz.ntmps58
  go_wp2_with fail
  refine HLD.out.mono ?_
  rintro e w1 ⟨rfl, rfl⟩
  clear HLD
  go_wp2_with fail
  clear m64 hwn mx
  go_loopw [33, 9] (fun i v wr => ∃ p : Nat, p ≤ k ∧ i = .int .i64 (p : Int) ∧ v = .int .u32 (gather (partG ws W a p 0) k) ∧ Hid (Below w.heap.size w wr)) (fun i _ _ => k - (intOf i).toNat)
  case atStart => exact ⟨0, Nat.zero_le _, rfl, rfl, Lib.hid (Below.refl _ _)⟩
  case round =>
    obtain ⟨p, hp, rfl, rfl, HBp⟩ := hrel
    by_cases hlt : p < k
    · have hpI : (p : Int) < (k : Int) := by omega
      have m65 : wr.cell? ⟨mb, 65, none⟩ = some (.slice (some ⟨g, 0, none⟩) W.length cap) := (HBp.out.cell (p := ⟨mb, 65, none⟩) HM.out.lt).trans (HM.out.cell (show 65 < 66 by decide))
      have HLT := Lib.hid hlt
      clear hlt
      go_wp2_with fail
      go_loopw [41, 9] (fun i v wk => ∃ j : Nat, j ≤ W.length ∧ i = .int .i64 (j : Int) ∧ v = .int .u32 (gather (partG ws W a p j) k) ∧ Hid (Below w.heap.size w wk)) (fun i _ _ => W.length - (intOf i).toNat)
      case atStart => exact ⟨0, Nat.zero_le _, rfl, rfl, HBp⟩
      case round =>
        obtain ⟨j, hj, rfl, rfl, HBj⟩ := hrel
        clear m65
        by_cases hlj : j < W.length
        · have hjI : (j : Int) < (W.length : Int) := by omega
          obtain ⟨c0, c1, c2⟩ := (HW.out.below HBj.out).row j hlj
          have hso := HWW.out _ (List.getElem_mem hlj)
          have HMI := Lib.hid (partG_miss HOK.out.1 HOK.out.2 W a p j k hlj hso)
          have HHI := Lib.hid (partG_hit HOK.out.1 HOK.out.2 W a p j k HK.out HLT.out hlj hso)
          obtain ⟨v0, v1⟩ := gather_u32 (partG ws W a p j) (fun i => partG_ok _ _ _ _ _ i) k HK.out
          obtain ⟨hsz, hfit, s0, s1⟩ := hso
          generalize gather (partG ws W a p j) k = v at *
          have HV : Hid (gather (partG ws W a p (j + 1)) k = gather (partG ws W a p (j + 1)) k) := Lib.hid rfl
          generalize hv2 : gather (partG ws W a p (j + 1)) k = v2 at *
          generalize (W[j]'hlj).addr = sa at *
          generalize (W[j]'hlj).size = sz at *
          generalize (W[j]'hlj).v = sv at *
          have HJ := Lib.hid hlj
          have HS := Lib.hid (And.intro hsz hfit)
          have hpk : (p : Int) < 4 := by omega
          have hsa : (sa : Int) < 16384 := by rcases hsz with e | e | e <;> omega
          have hsz0 : (1 : Int) ≤ (sz : Int) ∧ (sz : Int) ≤ 4 := by rcases hsz with e | e | e <;> omega
          obtain ⟨z0, z1⟩ := hsz0
          have hw1 : IntKind.i64.wrap ((a : Int) + (p : Int)) = (a : Int) + (p : Int) := IntWalk.i64_in _ ⟨by omega, by omega⟩
          have hw2 : IntKind.i64.wrap ((a : Int) + (p : Int) - (sa : Int)) = (a : Int) + (p : Int) - (sa : Int) := IntWalk.i64_in _ ⟨by omega, by omega⟩
          have HE := Lib.hid hv2
          have HBK := Lib.hid (HBj.out.trans ((Below.refl wr.heap.size wr).alloc (Nat.le_refl _) (.cells #[.int .u32 (sa : Int), .int .i64 (sz : Int), .int .u32 sv] 124) |>.mono HBj.out.size))
          clear hlj hv2 hsz hfit HV
          rcases Int.lt_or_le ((a : Int) + (p : Int) - (sa : Int)) 0 with hneg | hpos
          · have HEQ := Lib.hid (HMI.out (by have := HS.out; omega))
            clear HMI HHI
            go_wp2_with fail
            go_roundw
            case rel => exact ⟨j + 1, HJ.out, by go_num, by rw [HE.out, HEQ.out], HBK⟩
            case measure => have := HJ.out; go_light; simp [intOf]; omega
          · rcases Int.lt_or_le ((a : Int) + (p : Int) - (sa : Int)) (sz : Int) with hin | hout
            · have HEQ := Lib.hid (HHI.out (by omega))
              obtain ⟨d, hd⟩ : ∃ d : Nat, a + p - sa = d := ⟨_, rfl⟩
              obtain ⟨m1, hm1⟩ : ∃ m1 : Nat, k - 1 - p = m1 := ⟨_, rfl⟩
              obtain ⟨m2, hm2⟩ : ∃ m2 : Nat, sz - 1 - d = m2 := ⟨_, rfl⟩
              have q0 : (a : Int) + (p : Int) - (sa : Int) = (d : Int) := by omega
              have q1 : (k : Int) - 1 - (p : Int) = (m1 : Int) := by omega
              have q2 : (sz : Int) - 1 - (d : Int) = (m2 : Int) := by omega
              have q3 : (m1 : Int) ≤ 3 := by omega
              have q4 : (m2 : Int) ≤ 3 := by omega
              have hw2b : IntKind.i64.wrap ((a : Int) + (p : Int) - (sa : Int)) = (d : Int) := by rw [hw2, q0]
              have hw3 : IntKind.i64.wrap ((k : Int) - 1) = (k : Int) - 1 := IntWalk.i64_in _ ⟨by omega, by omega⟩
              have hw4 : IntKind.i64.wrap ((k : Int) - 1 - (p : Int)) = (m1 : Int) := by rw [q1]; exact IntWalk.i64_in _ ⟨by omega, by omega⟩
              have hw5 : IntKind.i64.wrap (8 * (m1 : Int)) = 8 * (m1 : Int) := IntWalk.i64_in _ ⟨by omega, by omega⟩
              have hw6 : IntKind.i64.wrap ((sz : Int) - 1) = (sz : Int) - 1 := IntWalk.i64_in _ ⟨by omega, by omega⟩
              have hw7 : IntKind.i64.wrap ((sz : Int) - 1 - (d : Int)) = (m2 : Int) := by rw [q2]; exact IntWalk.i64_in _ ⟨by omega, by omega⟩
              have hw8 : IntKind.i64.wrap (8 * (m2 : Int)) = 8 * (m2 : Int) := IntWalk.i64_in _ ⟨by omega, by omega⟩
              have hw9 : IntKind.i64.wrap (m2 : Int) = (m2 : Int) := IntWalk.i64_in _ ⟨by omega, by omega⟩
              have hw10 : IntKind.i64.wrap (m1 : Int) = (m1 : Int) := IntWalk.i64_in _ ⟨by omega, by omega⟩
              have r0 : (0 : Int) ≤ 8 * (m1 : Int) := by omega
              have r1 : (8 : Int) * (m1 : Int) < 32 := by omega
              have r2 : (0 : Int) ≤ 8 * (m2 : Int) := by omega
              have r3 : (8 : Int) * (m2 : Int) < 32 := by omega
              have d0 : (0 : Int) ≤ (d : Int) := by omega
              have d1 : (d : Int) < (sz : Int) := by omega
              rw [hd, hm1, hm2] at HEQ
              have HG := Lib.hid (And.intro hd (And.intro hm1 hm2))
              have HVAL : Hid (bits .or .u32 (bits .andNot .u32 v (IntKind.u32.wrap (255 * 2 ^ (8 * (m1 : Int)).toNat))) (IntKind.u32.wrap (bits .and .u32 (sv / 2 ^ (8 * (m2 : Int)).toNat) 255 * 2 ^ (8 * (m1 : Int)).toNat)) = v2) := by
                refine Lib.hid (Eq.trans ?_ HEQ.out)
                rw [show (8 * (m1 : Int)).toNat = 8 * m1 by omega, show (8 * (m2 : Int)).toNat = 8 * m2 by omega, and_byte _ (Int.ediv_nonneg s0 (by have : (0 : Int) < 2 ^ (8 * m2) := Int.pow_pos (by decide); omega)) (Int.lt_of_le_of_lt (Int.ediv_le_self _ s0) s1)]
                rfl
              clear HMI HHI hd hm1 hm2 hw2
              go_wp2_with fail
              have HX := Lib.hid (three_cells (heap_alloc_new wr (.cells #[.int .u32 (sa : Int), .int .i64 (sz : Int), .int .u32 sv] 124)))
              generalize wr.alloc (.cells #[.int .u32 (sa : Int), .int .i64 (sz : Int), .int .u32 sv] 124) = V at *
              obtain ⟨e0, e1, e2⟩ := HX.out
              go_still (by kernel_rfl)
              rw [HVAL.out]
              change Exit.inBlock _ _ Exit.normal _ V.drew
              have HBD := Lib.hid (HBK.out.trans ((Below.refl V.heap.size V).drew.mono HBK.out.size))
              clear e0 e1 e2
              generalize V.drew = V1 at *
              go_wp2_with fail
              go_roundw
              case rel => exact ⟨j + 1, HJ.out, by go_num, by rw [HE.out], HBD⟩
              case measure => have := HJ.out; go_light; simp [intOf]; omega
            · have HEQ := Lib.hid (HMI.out (by omega))
              clear HMI HHI
              go_wp2_with fail
              go_roundw
              case rel => exact ⟨j + 1, HJ.out, by go_num, by rw [HE.out, HEQ.out], HBK⟩
              case measure => have := HJ.out; go_light; simp [intOf]; omega
        · obtain rfl : j = W.length := by omega
          have hd : decide ((W.length : Int) < (W.length : Int)) = false := decide_eq_false (by omega)
          rw [partG_row]
          go_wp2_with fail
          go_roundw
          case rel => exact ⟨p + 1, HLT.out, by go_num, rfl, HBj⟩
          case measure => have := HLT.out; go_light; simp [intOf]; omega
    · obtain rfl : p = k := by omega
      have hd : decide ((p : Int) < (p : Int)) = false := decide_eq_false (by omega)
      rw [partG_all]
      go_wp2_with fail
      refine (HFIN.out _).mono ?_
      rintro e w1 ⟨rfl, rfl⟩
      go_wp2_with fail
      go_ret2
      exact ⟨rfl, HBp.out⟩
end
end Go.Proofs.YtlnefmgiiogcmaaGreatDoor
