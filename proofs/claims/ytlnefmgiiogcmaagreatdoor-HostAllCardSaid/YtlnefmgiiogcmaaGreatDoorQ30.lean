/- The walk of host's row. The walk of plan's Make. The walk of slices.Delete at one op. The walks of slices.Grow at nil and of slices.Concat at a plan's rows. The walks of plan's row$1 and of slices.ContainsFunc at it and at final. The walk of plan's row on a row that is well. Conditions: as each theorem states. -/
import Derived.Test.YtlnefmgiiogcmaaGreatDoorQ27
import Derived.Test.YtlnefmgiiogcmaaGreatDoorQ29
import Derived.Test.YtlnefmgiiogcmaaGreatDoorQ25
import Derived.Test.YtlnefmgiiogcmaaGreatDoorQ12
import Derived.Deep.RegionLaw
import Derived.Lib.AppendZerosOnto
import Derived.Deep.RegionHeld3
import Derived.Test.YtlnefmgiiogcmaaGreatDoorQ28
set_option linter.unusedVariables false
set_option linter.unusedSimpArgs false
namespace Go.Proofs.YtlnefmgiiogcmaaGreatDoor
open Go.RowKit
theorem EvS.waits {w w' : World} {r bb mw mh mb B n : Nat} {X : Regs} {wv wv' : Value} {ws : List Int} {wt ht : Nat → Bool} {W W' : List StoW} (h : EvS w r bb mw mh mb B n X wv ws wt ht W) (hk : Kept (fun k => k = mb ∨ wv.ownBlock = some k) w w') (hm : MpB w' mb X (.pointer (some ⟨r, 0, none⟩)) wv') (hw : WaitO w' B wv' W') (hg : ∀ x ∈ W', StoG wt x) : EvS w' r bb mw mh mb B n X wv' ws wt ht W' := by
  have hlow : ∀ k, k < B → ¬ (k = mb ∨ wv.ownBlock = some k) := fun k hkB e => by
    rcases e with e | e
    · have := h.low; omega
    · have := h.own_ge e; omega
  exact
    { ram := h.ram.kept hk (hlow _ h.low.1) (hlow _ h.low.2.1) (hlow _ h.low.2.2.1) (hlow _ h.low.2.2.2.1)
      mp := hm
      wait := hw
      good := hg
      regs := h.regs
      low := h.low }
theorem EvS.to_below {w w' : World} {r bb mw mh mb B n : Nat} {X : Regs} {wv : Value} {ws : List Int} {wt ht : Nat → Bool} {W : List StoW} (h : EvS w r bb mw mh mb B n X wv ws wt ht W) (hk : Kept (fun k => k = mb ∨ wv.ownBlock = some k) w w') : Below B w w' :=
  hk.to_below h.B_le (fun k hkB e => by
    rcases e with e | e
    · have := h.low; omega
    · have := h.own_ge e; omega)
theorem lit_store (k : OpK) : (k.lit.toList == [115, 116, 111, 114, 101]) = storeK k := by cases k <;> decide +kernel
theorem opG_store {o : OpN} (h : opG o) (hs : storeK o.kind = true) : o.d = 1 ∨ o.d = 2 ∨ o.d = 4 := by
  obtain ⟨k, d, a, b, im, n⟩ := o
  cases k <;> first | exact h.1 | exact absurd (show false = true from hs) (by decide)
theorem store_is {k : OpK} (h : storeK k = true) : k = .store := by cases k <;> first | rfl | exact absurd (show false = true from h) (by decide)
set_option maxHeartbeats 32000000 in
set_option maxRecDepth 100000 in
theorem hrow_any {w : World} {g cap r bb mw mh mb B n : Nat} {X : Regs} {wv : Value} {ws : List Int} {wt ht : Nat → Bool} {W : List StoW} {l : List OpN} {ad : Nat → Addr} (h : EvS w r bb mw mh mb B n X wv ws wt ht W) (hO : OpsAt w g l) (hl0 : 0 < l.length) (hl4 : l.length ≤ 4) (hW : W.length + storesO l ≤ 8) (hg : ∀ o ∈ l, opG o ∧ Reg32 o.imm) (hS : Sents w ad) :
    Calls Tryz.prog 35 #[.pointer (some ⟨mb, 0, none⟩), .slice (some ⟨g, 0, none⟩) l.length cap] w fun e w' => HRowP w r bb mw mh mb B n X wv ws wt ht W l e w' := by
  have HE := Lib.hid h
  have HO := Lib.hid hO
  have HL4 := Lib.hid (And.intro hl0 hl4)
  have HWL := Lib.hid hW
  have HG := Lib.hid hg
  have HS := Lib.hid hS
  have l0 : (0 : Int) < (l.length : Int) := by omega
  have l1 : (l.length : Int) ≤ 4 := by omega
  obtain ⟨iS, hS1, hS2, hS3, hS4⟩ := info_parts Tryz.infoRes
  clear h hO hl0 hl4 hW hg hS
  go_enter Tryz.func35, Tryz.ntmps35
  go_wp2_with fail
  go_loopw [4, 5, 6, 7, 9, 10, 11, 19] (fun s4 s5 s6 s7 s9 s10 s11 s19 wr => ∃ (j : Nat) (va : Option Addr) (vc : Nat), j ≤ l.length ∧ s4 = .int .u32 0 ∧ s5 = .bool false ∧ s6 = .int .i64 0 ∧ s7 = .slice va j vc ∧ s19 = .int .i64 (j : Int) ∧ Hid (wr.ownsRow w.heap.size 134 8 (.slice va j vc) j ((l.take j).flatMap (resC X (applyW ws W)))) ∧ Hid (∀ o ∈ l.take j, trapO wt o X = false) ∧ Hid (Below w.heap.size w wr)) (fun _ _ _ _ _ _ _ s19 _ => l.length - (intOf s19).toNat)
  case atStart => exact ⟨0, none, 0, Nat.zero_le _, rfl, rfl, rfl, rfl, rfl, Lib.hid (World.ownsRow_nil _ _ _ _), Lib.hid (fun o ho => by cases ho), Lib.hid (Below.refl _ _)⟩
  case round =>
    obtain ⟨j, va, vc, hj, rfl, rfl, rfl, rfl, rfl, HOW, HNT, HB⟩ := hrel
    by_cases hlt : j < l.length
    · have hjI : (j : Int) < (l.length : Int) := by omega
      obtain ⟨c0, c1, c2, c3, c4, c5⟩ := (HO.out.below HB.out HO.out.lt).cells j hlt
      have HK := Lib.hid hlt
      have HGJ := Lib.hid (HG.out _ (List.getElem_mem hlt)).1
      have HTK := Lib.hid (show l.take (j + 1) = l.take j ++ [l[j]] from List.take_succ_eq_append_getElem hlt)
      have HFD := Lib.hid (fun (ht : trapO wt l[j] X = true) => find_take hlt HNT.out ht)
      generalize l[j] = o at *
      obtain ⟨k, d, a, b, im, m⟩ := o
      simp only at c0 c1 c2 c3 c4 c5
      rw [lit_text] at c0
      have HRC : Hid (∀ v z, v = resV ⟨k, d, a, b, im, m⟩ X (applyW ws W) → z = resB ⟨k, d, a, b, im, m⟩ X → resC X (applyW ws W) ⟨k, d, a, b, im, m⟩ = [.string k.lit, .int .i64 (d : Int), .int .i64 (a : Int), .int .i64 b, .int .u32 im, .int .i64 (m : Int), .int .u32 v, .int .u32 z]) := Lib.hid (fun v z hv hz => by
        subst hv hz
        unfold resC
        rw [lit_text])
      have hal := (Below.refl wr.heap.size wr).alloc (Nat.le_refl _) (.cells #[.string k.lit, .int .i64 (d : Int), .int .i64 (a : Int), .int .i64 b, .int .u32 im, .int .i64 (m : Int)] 61)
      have HBX := Lib.hid (heap_alloc_new wr (.cells #[.string k.lit, .int .i64 (d : Int), .int .i64 (a : Int), .int .i64 b, .int .u32 im, .int .i64 (m : Int)] 61))
      have HAL := Lib.hid hal
      have HBA := Lib.hid (HB.out.trans (hal.mono HB.out.size))
      have HRD := Lib.hid (hread_any (HE.out.below HBA.out) (by have := HWL.out; omega) k HGJ.out (HS.out.below HBA.out))
      clear hal hlt hj
      go_wp2_with fail
      generalize hX9 : wr.alloc (.cells #[.string k.lit, .int .i64 (d : Int), .int .i64 (a : Int), .int .i64 b, .int .u32 im, .int .i64 (m : Int)] 61) = X9 at *
      clear hX9
      refine HRD.out.mono ?_
      rintro e w3 ⟨v, z, ⟨rfl, hb3⟩, hvz⟩
      have HVZ := Lib.hid hvz
      have HBX3 := Lib.hid ((hb3.block _ (Array.getElem?_eq_some_iff.1 HBX.out).1).trans HBX.out)
      have HB3 := Lib.hid (HBA.out.trans (hb3.mono HBA.out.size))
      have HBR := Lib.hid (HAL.out.trans (hb3.mono HAL.out.size))
      clear hvz hb3 HBX HAL HBA HRD c0 c1 c2 c3 c4 c5
      have hax := (Below.refl w3.heap.size w3).alloc (Nat.le_refl _) (.cells #[.string k.lit, .int .i64 (d : Int), .int .i64 (a : Int), .int .i64 b, .int .u32 im, .int .i64 (m : Int), .int .u32 v, .int .u32 z] 134)
      have HBX4 := Lib.hid ((hax.block _ (Array.getElem?_eq_some_iff.1 HBX3.out).1).trans HBX3.out)
      have HOX4 := Lib.hid (heap_alloc_new w3 (.cells #[.string k.lit, .int .i64 (d : Int), .int .i64 (a : Int), .int .i64 b, .int .u32 im, .int .i64 (m : Int), .int .u32 v, .int .u32 z] 134))
      have HB4 := Lib.hid (HB3.out.trans (hax.mono HB3.out.size))
      have HBR4 := Lib.hid (HBR.out.trans (hax.mono HBR.out.size))
      clear hax
      cases htr : trapO wt ⟨k, d, a, b, im, m⟩ X with
      | true =>
        have HFF := Lib.hid (HFD.out htr)
        clear htr
        go_upto_region 7 with fail
        generalize w3.alloc (.cells #[.string k.lit, .int .i64 (d : Int), .int .i64 (a : Int), .int .i64 b, .int .u32 im, .int .i64 (m : Int), .int .u32 v, .int .u32 z] 134) = w4 at *
        obtain ⟨e0, e1, e2, e3, e4, e5⟩ := six_cells HBX4.out
        clear e0 e1 e2 e3 e4
        go_quiet (fail)
        go_wp2
        refine bodyPost_ret (v := .tuple #[.int .u32 0, .bool false, .int .i64 (m : Int)]) (by simp [results, Tryz.results35, go_sem]) rfl ?_
        unfold HRowP
        rw [HFF.out]
        exact ⟨rfl, blw_drewN HB4.out _⟩
      | false =>
        have HTR := Lib.hid htr
        obtain ⟨hv, hz⟩ := HVZ.out htr
        have HRR := Lib.hid (HRC.out v z hv hz)
        clear htr hv hz
        go_upto_region 8 with fail
        generalize w3.alloc (.cells #[.string k.lit, .int .i64 (d : Int), .int .i64 (a : Int), .int .i64 b, .int .u32 im, .int .i64 (m : Int), .int .u32 v, .int .u32 z] 134) = w4 at *
        obtain ⟨⟨o0, o1, o2, o3, o4, o5, o6, o7⟩, of⟩ := eight_cells HOX4.out
        go_wp2_with (at_builtin; refine wpList_append_own _ rfl (.tmp 33) (.tmp 35) 132 rfl w.heap.size 134 iS (.agg #[.string ByteArray.empty, .int .i64 0, .int .i64 0, .int .i64 0, .int .u32 0, .int .i64 0, .int .u32 0, .int .u32 0]) 8 64 Tryz.underlying132 hS1 hS2 hS3 hS4 rfl (by decide) (.slice va j vc) j ((l.take j).flatMap (resC X (applyW ws W))) rfl ((own_below HOW.out HBR4.out).alloc _) ⟨w4.heap.size, 0, none⟩ 1 1 [.string k.lit, .int .i64 (d : Int), .int .i64 (a : Int), .int .i64 b, .int .u32 im, .int .i64 (m : Int), .int .u32 v, .int .u32 z] rfl rfl (eight_news w4 _ _ _ _ _ _ _ _ _) (by rw [← HRR.out]; exact resC_one _ _ _) (by unfold maxLen; have := HK.out; have := HL4.out.2; omega) (by have := HK.out; have := HL4.out.2; omega) (by simp; have := HB4.out.size; omega) ?_)
        intro v5 w5 hown5 hgr5 _
        rw [← HRR.out] at hown5
        have HB5 := Lib.hid ((HB4.out.alloc HB4.out.size (.cells #[.string k.lit, .int .i64 (d : Int), .int .i64 (a : Int), .int .i64 b, .int .u32 im, .int .i64 (m : Int), .int .u32 v, .int .u32 z] 134)).grown hgr5 (by simp; have := HB4.out.size; omega) (fun k hk => own_base HOW.out hk))
        obtain ⟨va', vc', hv5⟩ : ∃ va' vc', v5 = .slice va' (j + 1) vc' := by
          rcases Joins.ownsRow_forms hown5 with ⟨_, hz⟩ | ⟨g, cap, hv⟩
          · exact absurd hz (by omega)
          · exact ⟨_, _, hv⟩
        subst hv5
        have HOW5 : Hid (w5.ownsRow w.heap.size 134 8 (.slice va' (j + 1) vc') (j + 1) ((l.take (j + 1)).flatMap (resC X (applyW ws W)))) := Lib.hid (by
          rw [HTK.out, List.flatMap_append]
          simpa using hown5)
        have HNT5 : Hid (∀ o ∈ l.take (j + 1), trapO wt o X = false) := Lib.hid (by
          rw [HTK.out]
          intro o ho
          rcases List.mem_append.1 ho with h1 | h1
          · exact HNT.out o h1
          · rw [List.mem_singleton.1 h1]
            exact HTR.out)
        clear hown5 hgr5 o0 o1 o2 o3 o4 o5 o6 o7 of
        go_wp2_with fail
        go_roundw
        case rel => exact ⟨j + 1, va', vc', HK.out, rfl, rfl, rfl, rfl, by go_num, HOW5, HNT5, HB5⟩
        case measure => have := HK.out; go_light; simp [intOf]; omega
    · obtain rfl : j = l.length := by omega
      have hd : decide ((l.length : Int) < (l.length : Int)) = false := decide_eq_false (by omega)
      rw [List.take_length] at HOW HNT
      obtain ⟨ga, capa, hv, hga, hra⟩ := resAt_own HOW.out HL4.out.1
      simp only [Value.slice.injEq] at hv
      obtain ⟨rfl, -, rfl⟩ := hv
      have HGA := Lib.hid hga
      have HRA0 := Lib.hid hra
      have HE0 := Lib.hid (HE.out.below HB.out)
      have HB0 := Lib.hid (HB.out.mono HE.out.B_le)
      have HGM : Hid (ga ≠ mb) := Lib.hid (by have := HE.out.mp.lt; omega)
      have HXX := Lib.hid HE.out.regs
      clear hga hra HOW hlt hj
      go_wp2_with fail
      clear hd
      go_loopw [4, 5, 13, 14, 15, 16, 40] (fun s4 s5 s13 s14 s15 s16 s40 wr => ∃ (j : Nat) (pc : Int) (lv : Bool) (wv' : Value), j ≤ l.length ∧ s4 = .int .u32 pc ∧ s5 = .bool lv ∧ s40 = .int .i64 (j : Int) ∧ Hid (rowLeave X (l.take j) none = if lv = true then some pc else none) ∧ Hid (EvS wr r bb mw mh mb B n (rowRegs X (applyW ws W) (l.take j) X) wv' ws wt ht (rowWaits X (l.take j) W)) ∧ Hid (ResAt wr ga X (applyW ws W) l) ∧ Hid (Below B w wr)) (fun _ _ _ _ _ _ s40 _ => l.length - (intOf s40).toNat)
      case atStart => exact ⟨0, 0, false, wv, Nat.zero_le _, rfl, rfl, rfl, Lib.hid rfl, HE0, HRA0, HB0⟩
      case round =>
        obtain ⟨j, pc, lv, wv', hj, rfl, rfl, rfl, HLV, HEV, HRA, HBB⟩ := hrel
        clear HE0 HRA0 HB0 HB HE HO HS
        by_cases hlt : j < l.length
        · have hjI : (j : Int) < (l.length : Int) := by omega
          obtain ⟨q0, q1, q2, q3, q4, q5, q6, q7⟩ := HRA.out.cells j hlt
          have HK := Lib.hid hlt
          have HGJ := Lib.hid (HG.out _ (List.getElem_mem hlt))
          have HTK := Lib.hid (show l.take (j + 1) = l.take j ++ [l[j]] from List.take_succ_eq_append_getElem hlt)
          have HTR := Lib.hid (HNT.out _ (List.getElem_mem hlt))
          have HWLJ : Hid ((rowWaits X (l.take j) W).length ≤ 8) := Lib.hid (by
            rw [rowWaits_len]
            have := HWL.out
            have := stores_take l j
            omega)
          have HRW := Lib.hid (rowRegs_word (applyW ws W) HXX.out (l.take (j + 1)) X (fun o ho => (HG.out o (List.mem_of_mem_take ho)).2) HXX.out)
          rw [HTK.out, rowRegs_snoc] at HRW
          have HNX : Hid (∀ (wx : World) (wv2 : Value) (p2 : Int) (lv2 : Bool), rowLeave X (l.take (j + 1)) none = (if lv2 = true then some p2 else none) → EvS wx r bb mw mh mb B n (regO l[j] (valO l[j] X (applyW ws W)) (rowRegs X (applyW ws W) (l.take j) X)) wv2 ws wt ht (waitsO l[j] X (rowWaits X (l.take j) W)) → EvS wx r bb mw mh mb B n (rowRegs X (applyW ws W) (l.take (j + 1)) X) wv2 ws wt ht (rowWaits X (l.take (j + 1)) W)) := Lib.hid (fun wx wv2 p2 lv2 _ h => by
            rw [HTK.out, rowRegs_snoc, rowWaits_snoc]
            exact h)
          have HLJ := Lib.hid ((congrArg (fun t => rowLeave X t none) HTK.out).trans (rowLeave_snoc X none (l.take j) l[j]))
          have HWG := Lib.hid (fun hW => waits_good (W := rowWaits X (l.take j) W) hW HXX.out (o := l[j]) (fun hs => opG_store HGJ.out.1 hs) HTR.out)
          generalize l[j] = o at *
          obtain ⟨k, d, a, b, im, m⟩ := o
          simp only at q0 q1 q2 q3 q4 q5 q6 q7
          rw [lit_text] at q0
          generalize rowRegs X (applyW ws W) (l.take j) X = Y at *
          generalize rowWaits X (l.take j) W = Wj at *
          obtain ⟨v, hv⟩ : ∃ v, resV ⟨k, d, a, b, im, m⟩ X (applyW ws W) = v := ⟨_, rfl⟩
          obtain ⟨z, hz⟩ : ∃ z, resB ⟨k, d, a, b, im, m⟩ X = z := ⟨_, rfl⟩
          rw [hv] at q6
          rw [hz] at q7
          have HV := Lib.hid hv
          have HZ := Lib.hid hz
          have HWR := Lib.hid (fun wx => optWrites_at (d := d) (a := a) (n := m) (b := b) (im := im) k wx)
          obtain ⟨wo, hwo⟩ : ∃ wo, wrO ⟨k, d, a, b, im, m⟩ = wo := ⟨_, rfl⟩
          rw [hwo] at HWR
          have HWO := Lib.hid hwo
          have hal := (Below.refl wr.heap.size wr).alloc (Nat.le_refl _) (.cells #[.string k.lit, .int .i64 (d : Int), .int .i64 (a : Int), .int .i64 b, .int .u32 im, .int .i64 (m : Int), .int .u32 v, .int .u32 z] 134)
          have HBX := Lib.hid (heap_alloc_new wr (.cells #[.string k.lit, .int .i64 (d : Int), .int .i64 (a : Int), .int .i64 b, .int .u32 im, .int .i64 (m : Int), .int .u32 v, .int .u32 z] 134))
          have HAL := Lib.hid hal
          clear hal hlt hj hv hz hwo
          go_upto_region 13 with fail
          generalize wr.alloc (.cells #[.string k.lit, .int .i64 (d : Int), .int .i64 (a : Int), .int .i64 b, .int .u32 im, .int .i64 (m : Int), .int .u32 v, .int .u32 z] 134) = X9 at *
          obtain ⟨⟨o0, o1, o2, o3, o4, o5, o6, o7⟩, of⟩ := eight_cells HBX.out
          clear q0 q1 q2 q3 q4 q5 q6 q7
          go_wp2_with fail
          refine (HWR.out _).mono ?_
          rintro e w3 ⟨rfl, hb3⟩
          have HBX3 := Lib.hid ((hb3.block _ (Array.getElem?_eq_some_iff.1 HBX.out).1).trans HBX.out)
          have HA3 := Lib.hid (HAL.out.trans (hb3.mono HAL.out.size))
          have HEV3 := Lib.hid (HEV.out.below HA3.out)
          have HRA3 := Lib.hid (HRA.out.of_block (HA3.out.block _ HRA.out.lt))
          have HB3 := Lib.hid (HBB.out.trans (HA3.out.mono HEV.out.B_le))
          have HXB : Hid (wr.heap.size ≠ mb ∧ wv'.ownBlock ≠ some wr.heap.size) := Lib.hid ⟨by have := HEV.out.mp.lt; omega, fun e => by have := (World.ownsRow.lt HEV.out.wait _ e).2; omega⟩
          clear hb3 HBX HAL HWR o0 o1 o2 o3 o4 o5 o6 o7 of
          obtain ⟨⟨o0, o1, o2, o3, o4, o5, o6, o7⟩, of⟩ := eight_cells HBX3.out
          -- ways
          by_cases hst : storeK k = true
          · obtain rfl := store_is hst
            obtain rfl : wo = 0 := HWO.out.symm
            obtain ⟨A, rfl⟩ : ∃ A : Nat, z = (A : Int) := ⟨z.toNat, by have h1 := HZ.out; simp only [resB] at h1; omega⟩
            have HAA : Hid (((X a + im) % 4294967296).toNat = A) := Lib.hid (by have h1 := HZ.out; simp only [resB] at h1; omega)
            have hlits : OpK.store.lit = ⟨#[115, 116, 111, 114, 101]⟩ := rfl
            rw [hlits] at o0 HBX3
            have hl115 : ByteArray.toList ⟨#[115, 116, 111, 114, 101]⟩ = [115, 116, 111, 114, 101] := by decide +kernel
            have HWT := Lib.hid (waitP_any HEV3.out.mp HEV3.out.wait (by have := HWLJ.out; omega) HEV3.out.B_le ⟨A, d, v⟩)
            have HLQ : Hid (rowLeave X (l.take (j + 1)) none = if lv = true then some pc else none) := Lib.hid (by
              rw [HLJ.out]
              exact HLV.out)
            clear hst
            go_wp2_with fail
            refine HWT.out.mono ?_
            rintro e w5 ⟨rfl, hk5, wv5, hm5, hw5⟩
            have hlt5 := (Array.getElem?_eq_some_iff.1 HBX3.out).1
            have HBX5 := Lib.hid ((hk5.same _ hlt5 (fun e => e.elim HXB.out.1 HXB.out.2)).trans HBX3.out)
            obtain ⟨csr, hcsr⟩ := HRA3.out.blk
            have HRA5 := Lib.hid (HRA3.out.of_block (hk5.same _ HRA3.out.lt (fun e => e.elim HGM.out (fun e2 => own_ne HEV3.out.wait hcsr (by decide) e2.symm))))
            have HB5 := Lib.hid (HB3.out.trans (HEV3.out.to_below hk5))
            have hwo : waitsO ⟨.store, d, a, b, im, m⟩ X Wj = Wj ++ [⟨A, d, v⟩] := by
              have h1 := HV.out
              simp only [resV] at h1
              simp [waitsO, storeK, HAA.out, h1]
            have HEV5 := Lib.hid (HEV3.out.waits hk5 hm5 hw5 (by
              have := HWG.out HEV3.out.good
              rw [hwo] at this
              exact this))
            clear hk5 hm5 hw5 hlt5 hcsr HWT HBX3 HEV3 HRA3 HB3
            have HSX := Lib.hid hwo
            clear hwo
            have HWH := Lib.hid (fun wx => irWhere_any (d := d) (a := a) (n := m) (b := b) (im := im) .store v wx)
            have HLE := Lib.hid (fun wx => irLeaves_any .store wx)
            rw [lit_text, leavesK_O, show leavesO OpK.store = false from rfl] at HLE
            rw [hlits] at HWH HLE
            clear o0 o1 o2 o3 o4 o5 o6 o7 of
            obtain ⟨⟨o0, o1, o2, o3, o4, o5, o6, o7⟩, of⟩ := eight_cells HBX5.out
            go_wp2_with fail
            refine (HWH.out _).mono ?_
            rintro e w6 ⟨rfl, hb6⟩
            have HBX6 := Lib.hid ((hb6.block _ (Array.getElem?_eq_some_iff.1 HBX5.out).1).trans HBX5.out)
            have HEV6 := Lib.hid (HEV5.out.below hb6)
            have HRA6 := Lib.hid (HRA5.out.of_block (hb6.block _ HRA5.out.lt))
            have HB6 := Lib.hid (HB5.out.trans (hb6.mono HEV5.out.B_le))
            clear hb6 HBX5 HEV5 HRA5 HB5 HWH o0 o1 o2 o3 o4 o5 o6 o7 of
            obtain ⟨⟨o0, o1, o2, o3, o4, o5, o6, o7⟩, of⟩ := eight_cells HBX6.out
            go_wp2_with fail
            refine (HLE.out _).mono ?_
            rintro e w7 ⟨rfl, rfl⟩
            clear o0 o1 o2 o3 o4 o5 o6 o7 of
            go_wp2_with fail
            go_roundw
            case rel => exact ⟨j + 1, pc, lv, wv5, HK.out, rfl, rfl, by go_num, Lib.hid HLQ.out, Lib.hid (HNX.out _ _ pc lv HLQ.out (by rw [HSX.out]; exact HEV6.out)), HRA6, HB6⟩
            case measure => have := HK.out; go_light; simp [intOf]; omega
          · have hsf : storeK k = false := by simpa using hst
            have hkq : (k.lit.toList == [115, 116, 111, 114, 101]) = false := by rw [lit_store]; exact hsf
            have hkn : ¬ k.lit.toList = [115, 116, 111, 114, 101] := fun e => by rw [e] at hkq; simp at hkq
            have HWI : Hid (waitsO ⟨k, d, a, b, im, m⟩ X Wj = Wj) := Lib.hid (by unfold waitsO; rw [hsf]; rfl)
            clear hst
            obtain ⟨kl, hkl⟩ : ∃ kl, kl = k.lit := ⟨_, rfl⟩
            rw [← hkl] at hkq hkn o0 HBX3
            have HKL := Lib.hid hkl
            have HKQ := Lib.hid (And.intro hkq hkn)
            clear hkl hsf
            by_cases h0 : wo = 0
            · subst h0
              have HRG : Hid (regO ⟨k, d, a, b, im, m⟩ (valO ⟨k, d, a, b, im, m⟩ X (applyW ws W)) Y = Y) := Lib.hid (regO_no HWO.out)
              have HBX5 := HBX3
              have HEV5 := HEV3
              have HRA5 := HRA3
              have HB5 := HB3
              clear HBX3 HEV3 HRA3 HB3
              cases hlv : leavesO k with
              | false =>
                have HLQ : Hid (rowLeave X (l.take (j + 1)) none = if lv = true then some pc else none) := Lib.hid (by
                  rw [HLJ.out, goesO_none hlv]
                  exact HLV.out)
                have HWH := Lib.hid (fun wx => irWhere_any (d := d) (a := a) (n := m) (b := b) (im := im) k v wx)
                have HLE := Lib.hid (fun wx => irLeaves_any k wx)
                rw [lit_text, leavesK_O, hlv] at HLE
                rw [← HKL.out] at HWH HLE
                clear hlv
                clear o0 o1 o2 o3 o4 o5 o6 o7 of
                obtain ⟨⟨o0, o1, o2, o3, o4, o5, o6, o7⟩, of⟩ := eight_cells HBX5.out
                go_wp2_with fail
                refine (HWH.out _).mono ?_
                rintro e w6 ⟨rfl, hb6⟩
                have HBX6 := Lib.hid ((hb6.block _ (Array.getElem?_eq_some_iff.1 HBX5.out).1).trans HBX5.out)
                have HEV6 := Lib.hid (HEV5.out.below hb6)
                have HRA6 := Lib.hid (HRA5.out.of_block (hb6.block _ HRA5.out.lt))
                have HB6 := Lib.hid (HB5.out.trans (hb6.mono HEV5.out.B_le))
                clear hb6 HBX5 HEV5 HRA5 HB5 HWH o0 o1 o2 o3 o4 o5 o6 o7 of
                obtain ⟨⟨o0, o1, o2, o3, o4, o5, o6, o7⟩, of⟩ := eight_cells HBX6.out
                go_wp2_with fail
                refine (HLE.out _).mono ?_
                rintro e w7 ⟨rfl, rfl⟩
                clear o0 o1 o2 o3 o4 o5 o6 o7 of
                go_wp2_with fail
                go_roundw
                case rel => exact ⟨j + 1, pc, lv, wv', HK.out, rfl, rfl, by go_num, Lib.hid HLQ.out, Lib.hid (HNX.out _ _ pc lv HLQ.out (by rw [HRG.out, HWI.out]; exact HEV6.out)), HRA6, HB6⟩
                case measure => have := HK.out; go_light; simp [intOf]; omega
              | true =>
                have HGW := Lib.hid (goes_where ⟨k, d, a, b, im, m⟩ X hlv)
                have hva : X a = v := by have := HV.out; rw [resV_leave hlv] at this; exact this
                rw [hva] at HGW
                have HWH := Lib.hid (fun wx => irWhere_any (d := d) (a := a) (n := m) (b := b) (im := im) k v wx)
                have HLE := Lib.hid (fun wx => irLeaves_any k wx)
                rw [lit_text, leavesK_O, hlv] at HLE
                rw [← HKL.out] at HWH HLE
                clear hlv hva o0 o1 o2 o3 o4 o5 o6 o7 of
                obtain ⟨⟨o0, o1, o2, o3, o4, o5, o6, o7⟩, of⟩ := eight_cells HBX5.out
                go_wp2_with fail
                refine (HWH.out _).mono ?_
                rintro e w6 ⟨rfl, hb6⟩
                have HBX6 := Lib.hid ((hb6.block _ (Array.getElem?_eq_some_iff.1 HBX5.out).1).trans HBX5.out)
                have HEV6 := Lib.hid (HEV5.out.below hb6)
                have HRA6 := Lib.hid (HRA5.out.of_block (hb6.block _ HRA5.out.lt))
                have HB6 := Lib.hid (HB5.out.trans (hb6.mono HEV5.out.B_le))
                clear hb6 HBX5 HEV5 HRA5 HB5 HWH o0 o1 o2 o3 o4 o5 o6 o7 of
                obtain ⟨⟨o0, o1, o2, o3, o4, o5, o6, o7⟩, of⟩ := eight_cells HBX6.out
                cases hwb : whereB k v with
                | true =>
                  have HLQ : Hid (∀ q : Bool, q = true → rowLeave X (l.take (j + 1)) none = if q = true then some (whereV k im v) else none) := Lib.hid (by
                    rintro _ rfl
                    rw [HLJ.out, HGW.out, hwb]
                    rfl)
                  clear hwb
                  go_wp2_with fail
                  refine (HLE.out _).mono ?_
                  rintro e w7 ⟨rfl, rfl⟩
                  clear o0 o1 o2 o3 o4 o5 o6 o7 of
                  go_wp2_with fail
                  go_roundw
                  case rel => exact ⟨j + 1, whereV k im v, true, wv', HK.out, rfl, rfl, by go_num, Lib.hid (HLQ.out true rfl), Lib.hid (HNX.out _ _ _ true (HLQ.out true rfl) (by rw [HRG.out, HWI.out]; exact HEV6.out)), HRA6, HB6⟩
                  case measure => have := HK.out; go_light; simp [intOf]; omega
                | false =>
                  have HLQ : Hid (rowLeave X (l.take (j + 1)) none = if lv = true then some pc else none) := Lib.hid (by
                    rw [HLJ.out, HGW.out, hwb]
                    exact HLV.out)
                  clear hwb
                  go_wp2_with fail
                  refine (HLE.out _).mono ?_
                  rintro e w7 ⟨rfl, rfl⟩
                  clear o0 o1 o2 o3 o4 o5 o6 o7 of
                  go_wp2_with fail
                  go_roundw
                  case rel => exact ⟨j + 1, pc, lv, wv', HK.out, rfl, rfl, by go_num, HLQ, Lib.hid (HNX.out _ _ pc lv HLQ.out (by rw [HRG.out, HWI.out]; exact HEV6.out)), HRA6, HB6⟩
                  case measure => have := HK.out; go_light; simp [intOf]; omega
            · have hne : ((wo : Int) != 0) = true := by simp; omega
              have hlv : leavesO k = false := by
                cases e : leavesO k with
                | false => rfl
                | true => exact absurd ((leaves_still (o := ⟨k, d, a, b, im, m⟩) e).1.symm.trans HWO.out) (fun e => h0 e.symm)
              have hw64 : wo < 64 := by
                have h1 := (opG_small HGJ.out.1).1
                have h2 := HWO.out
                simp only at h1
                have : wo = 0 ∨ wo = d := by rw [← h2]; cases k <;> simp [wrO]
                omega
              have hwI : (wo : Int) < 64 := by omega
              have HVV : Hid (valO ⟨k, d, a, b, im, m⟩ X (applyW ws W) = v) := Lib.hid (by rw [← resV_wr (by rw [HWO.out]; exact h0)]; exact HV.out)
              have HRG : Hid (regO ⟨k, d, a, b, im, m⟩ (valO ⟨k, d, a, b, im, m⟩ X (applyW ws W)) Y = updR Y wo v) := Lib.hid (by
                unfold regO
                rw [HWO.out, if_neg h0, HVV.out])
              have HLQ : Hid (rowLeave X (l.take (j + 1)) none = if lv = true then some pc else none) := Lib.hid (by
                rw [HLJ.out, goesO_none hlv]
                exact HLV.out)
              have hrx := HEV3.out.mp.reg hw64
              have hrf := HEV3.out.mp.free wo
              have hrxd : w3.drew.cell? ⟨mb, wo, none⟩ = some _ := hrx
              have hrfd : w3.drew.frozen? ⟨mb, wo, none⟩ = false := hrf
              have hlt5 := (Array.getElem?_eq_some_iff.1 HBX3.out).1
              have HKS := Lib.hid (((Kept.set w3 mb wo (.int .u32 v)).trans (Kept.of_below (Below.refl (w3.setCell ⟨mb, wo, none⟩ (.int .u32 v)).heap.size _).drew)).mono (T := fun k => k = mb) (fun _ e => e))
              have HBX5 : Hid ((w3.setCell ⟨mb, wo, none⟩ (.int .u32 v)).drew.heap[wr.heap.size]? = _) := Lib.hid ((HKS.out.same _ hlt5 HXB.out.1).trans HBX3.out)
              have HRA5 := Lib.hid (HRA3.out.of_block (HKS.out.same _ HRA3.out.lt HGM.out))
              have HB5 := Lib.hid (HB3.out.trans (HEV3.out.to_below (HKS.out.mono (fun _ e => Or.inl e))))
              have HEV5 := Lib.hid (HEV3.out.step (Y := updR Y wo v) (MpB.drew (HEV3.out.mp.set hw64 v)) HKS.out (by
                have := HRW.out
                rw [HRG.out] at this
                exact this))
              clear h0 hw64 hlt5
              go_upto_region 15 with fail
              have o6d : w3.drew.cell? ⟨wr.heap.size, 6, none⟩ = some (.int .u32 v) := o6
              go_region
              generalize (w3.setCell ⟨mb, wo, none⟩ (.int .u32 v)).drew = w5 at *
              clear HKS HBX3 HEV3 HRA3 HB3 hrx hrf hrxd hrfd o6d
              have HWH := Lib.hid (fun wx => irWhere_any (d := d) (a := a) (n := m) (b := b) (im := im) k v wx)
              have HLE := Lib.hid (fun wx => irLeaves_any k wx)
              rw [lit_text, leavesK_O, hlv] at HLE
              rw [← HKL.out] at HWH HLE
              clear hlv hne
              clear o0 o1 o2 o3 o4 o5 o6 o7 of
              obtain ⟨⟨o0, o1, o2, o3, o4, o5, o6, o7⟩, of⟩ := eight_cells HBX5.out
              go_wp2_with fail
              refine (HWH.out _).mono ?_
              rintro e w6 ⟨rfl, hb6⟩
              have HBX6 := Lib.hid ((hb6.block _ (Array.getElem?_eq_some_iff.1 HBX5.out).1).trans HBX5.out)
              have HEV6 := Lib.hid (HEV5.out.below hb6)
              have HRA6 := Lib.hid (HRA5.out.of_block (hb6.block _ HRA5.out.lt))
              have HB6 := Lib.hid (HB5.out.trans (hb6.mono HEV5.out.B_le))
              clear hb6 HBX5 HEV5 HRA5 HB5 HWH o0 o1 o2 o3 o4 o5 o6 o7 of
              obtain ⟨⟨o0, o1, o2, o3, o4, o5, o6, o7⟩, of⟩ := eight_cells HBX6.out
              go_wp2_with fail
              refine (HLE.out _).mono ?_
              rintro e w7 ⟨rfl, rfl⟩
              clear o0 o1 o2 o3 o4 o5 o6 o7 of
              go_wp2_with fail
              go_roundw
              case rel => exact ⟨j + 1, pc, lv, wv', HK.out, rfl, rfl, by go_num, Lib.hid HLQ.out, Lib.hid (HNX.out _ _ pc lv HLQ.out (by rw [HRG.out, HWI.out]; exact HEV6.out)), HRA6, HB6⟩
              case measure => have := HK.out; go_light; simp [intOf]; omega
          -- ways
        · obtain rfl : j = l.length := by omega
          have hd : decide ((l.length : Int) < (l.length : Int)) = false := decide_eq_false (by omega)
          rw [List.take_length] at HLV HEV
          go_wp2_with fail
          refine bodyPost_ret (v := .tuple #[.int .u32 pc, .bool lv, .int .i64 (-1)]) (by simp [results, Tryz.results35, go_sem]) rfl ?_
          unfold HRowP
          rw [find_all HNT.out]
          exact ⟨pc, lv, wv', rfl, HLV.out, HEV.out, HBB.out⟩
end Go.Proofs.YtlnefmgiiogcmaaGreatDoor
namespace Go.Proofs.YtlnefmgiiogcmaaGreatDoor
open Go.RowKit
structure PRowsAt (w : World) (B : Nat) (rv : Value) (rows : List (List OpN)) : Prop where
  ex : ∃ g cap, rv = .slice (some ⟨g, 0, none⟩) rows.length cap ∧ B ≤ g ∧ g < w.heap.size ∧ ∀ j (h : j < rows.length), ∃ gj capj, w.cell? ⟨g, j, none⟩ = some (.slice (some ⟨gj, 0, none⟩) rows[j].length capj) ∧ B ≤ gj ∧ OpsAt w gj rows[j] ∧ rows[j].length ≤ capj
theorem PRowsAt.keep {w w' : World} {B : Nat} {rv : Value} {rows : List (List OpN)} (h : PRowsAt w B rv rows) (hb : ∀ k, B ≤ k → k < w.heap.size → w'.heap[k]? = w.heap[k]?) (hs : w.heap.size ≤ w'.heap.size) : PRowsAt w' B rv rows := by
  obtain ⟨g, cap, h1, h2, h3, h4⟩ := h.ex
  refine ⟨g, cap, h1, h2, Nat.lt_of_lt_of_le h3 hs, fun j hj => ?_⟩
  obtain ⟨gj, capj, h5, h6, h7, h8⟩ := h4 j hj
  exact ⟨gj, capj, (World.cell?_of_block (a := ⟨g, j, none⟩) (hb g h2 h3)).trans h5, h6, h7.of_block (hb gj h6 h7.lt), h8⟩
theorem PRowsAt.below {w w' : World} {B : Nat} {rv : Value} {rows : List (List OpN)} (h : PRowsAt w B rv rows) (hb : Below w.heap.size w w') : PRowsAt w' B rv rows := h.keep (fun k _ hk => hb.block k hk) hb.size
theorem PRowsAt.mono {w : World} {B B' : Nat} {rv : Value} {rows : List (List OpN)} (h : PRowsAt w B rv rows) (hB : B' ≤ B) : PRowsAt w B' rv rows := by
  obtain ⟨g, cap, h1, h2, h3, h4⟩ := h.ex
  refine ⟨g, cap, h1, Nat.le_trans hB h2, h3, fun j hj => ?_⟩
  obtain ⟨gj, capj, h5, h6, h7⟩ := h4 j hj
  exact ⟨gj, capj, h5, Nat.le_trans hB h6, h7⟩
theorem MkW.rowsAt {w : World} {B mb bw br N : Nat} {mk : Mk} {rv : Value} {vs : List Value} (h : MkW w B mb mk rv vs bw br N) (hn : ∀ r ∈ mk.rows, r ≠ []) (h0 : mk.rows ≠ []) : PRowsAt w B rv mk.rows := by
  have hpos := List.length_pos_iff.2 h0
  obtain ⟨hl, h' | ⟨gr, capr, cur, hrv, hbr, hh, _⟩⟩ := id h.rows
  · exact absurd h'.2 (by have := h.len; omega)
  · refine ⟨gr, capr, by rw [hrv, h.len], hbr, (Array.getElem?_eq_some_iff.1 hh).1, fun j hj => ?_⟩
    have hjv : j < vs.length := by rw [h.len]; exact hj
    have hro := h.row j hjv hj
    obtain ⟨g, cap, hv, _, hcap, hat⟩ := opsAt_own hro (List.length_pos_iff.2 (hn _ (List.getElem_mem hj)))
    have hc := h.rows.cells (show rv.ownBlock = some gr by rw [hrv]; rfl) j vs[j] (List.getElem?_eq_getElem hjv)
    rw [addr_add] at hc
    exact ⟨g, cap, by rw [hc, hv], own_base hro (by rw [hv]; rfl), hat, hcap⟩
theorem natF0 : natF (fun _ => .none) = fun _ => .none := by
  funext p
  unfold natF
  split <;> rfl
theorem MkW.new0 (W : World) : MkW (((W.alloc (.map #[] 0)).alloc (.map #[] 0)).alloc (.cells #[.slice none 0 0, .map (some W.heap.size), .map (some (W.heap.size + 1)), .int .i64 (-1), .int .i64 (-1), .int .i64 0, .int .i64 0] 79)) W.heap.size (W.heap.size + 1 + 1) mk0 (.slice none 0 0) [] W.heap.size (W.heap.size + 1) 0 where
  blk := by
    have := heap_alloc_new ((W.alloc (.map #[] 0)).alloc (.map #[] 0)) (.cells #[.slice none 0 0, .map (some W.heap.size), .map (some (W.heap.size + 1)), .int .i64 (-1), .int .i64 (-1), .int .i64 0, .int .i64 0] 79)
    simp only [World.size_alloc] at this
    exact this
  rows := World.ownsRow_nil _ _ _ _
  len := rfl
  row := fun j h1 _ => absurd h1 (Nat.not_lt_zero j)
  apart := fun i j hi => absurd hi (Nat.not_lt_zero i)
  wr := by
    have h := MapF.made (P := Tryz.prog) (k := 3) (e := 3) (q := some .i64) W
    have hs : W.heap.size < (W.alloc (.map #[] 0)).heap.size := by simp
    show MapF _ _ _ _ _ _ (natF (fun _ => .none)) _
    rw [natF0]
    exact h.of_block ((((Below.refl _ (W.alloc (.map #[] 0))).alloc (Nat.le_refl _) _).alloc (by simp) _).block _ hs)
  rd := by
    have h := MapF.made (P := Tryz.prog) (k := 3) (e := 3) (q := some .i64) (W.alloc (.map #[] 0))
    have e : (W.alloc (.map #[] 0)).heap.size = W.heap.size + 1 := by simp
    rw [e] at h
    show MapF _ _ _ _ _ _ (natF (fun _ => .none)) _
    rw [natF0]
    exact h.of_block (((Below.refl _ ((W.alloc (.map #[] 0)).alloc (.map #[] 0))).alloc (Nat.le_refl _) _).block _ (by simp))
  ne := by omega
  new := ⟨by omega, Nat.le_refl _, by omega⟩
theorem MkOK.small {m : Mk} (h : MkOK m) (hl : m.rows.length ≤ 200) : MkS m where
  fst := by have := h.fl; omega
  lv := by have := h.le; omega
  st := by have := h.sl; omega
  ld := by have := h.ll; omega
  wr := fun r q e => by have := h.wl r q e; omega
  rd := fun r q e => by have := h.rl r q e; omega
  len := by omega
theorem lay_len {m : Mk} (h : MkOK m) (o : OpN) : (layM m o).rows.length ≤ m.rows.length + 1 ∧ (layM m o).rows ≠ [] := by
  obtain ⟨hf, hk, hfit⟩ := rowOf_ok h o
  have hlen : (layM m o).rows.length = max m.rows.length (rowOf m o + 1) := by
    show (putRow m.rows (rowOf m o) o).length = _
    rw [putRow_len hk]
  refine ⟨by omega, fun e => ?_⟩
  rw [e] at hlen
  simp at hlen
  omega
def PMakeP (w : World) (pc : Int) (many : Nat) (rows : List (List OpN)) (e : Ending) (w' : World) : Prop := Below w.heap.size w w' ∧ ∃ rv, e = .returned (.tuple #[.agg #[.int .u32 pc, .int .i64 (many : Int), rv], .nilIface]) ∧ PRowsAt w' w.heap.size rv rows
theorem plan_cells {w : World} {b : Nat} {t : TypeId} {x y z : Value} (h : w.heap[b]? = some (Obj.cells #[x, y, z] t (0, 0))) : w.cell? ⟨b, 0, none⟩ = some x ∧ w.cell? ⟨b, 1, none⟩ = some y ∧ w.cell? ⟨b, 2, none⟩ = some z ∧ ∀ i, w.frozen? ⟨b, i, none⟩ = false := by
  refine ⟨?_, ?_, ?_, fun i => ?_⟩ <;> simp [World.cell?, World.frozen?, h]
set_option maxHeartbeats 32000000 in
set_option maxRecDepth 100000 in
theorem planMake_at {w : World} {g cap many : Nat} {ops : List OpN} {pc mx : Int} (h : OpsAt w g ops) (hc : CodeOK many ops) (hm : w.cell? ⟨8, 0, none⟩ = some (.int .i64 mx)) :
    Calls Tryz.prog 8 #[.agg #[.int .u32 pc, .int .i64 (many : Int), .slice (some ⟨g, 0, none⟩) ops.length cap]] w fun e w' => PMakeP w pc many (makeZ ops) e w' := by
  have HC := Lib.hid hc
  have HL := Lib.hid hc.len
  have l0 : (0 : Int) < (ops.length : Int) := by have := hc.ne; omega
  have l1 : (ops.length : Int) ≤ 100 := by have := hc.len; omega
  have m0 : (1 : Int) ≤ (many : Int) := by have := hc.m0; omega
  have m1 : (many : Int) ≤ 24 := by have := hc.m1; omega
  have hA1 := (Below.refl w.heap.size w).alloc (Nat.le_refl _) (.cells #[.int .u32 pc, .int .i64 (many : Int), .slice (some ⟨g, 0, none⟩) ops.length cap] 34)
  have hA2 := hA1.alloc hA1.size (.cells #[.int .u32 0, .int .i64 0, .slice none 0 0] 45)
  have hb1 : CodeBox ((w.alloc (.cells #[.int .u32 pc, .int .i64 (many : Int), .slice (some ⟨g, 0, none⟩) ops.length cap] 34)).alloc (.cells #[.int .u32 0, .int .i64 0, .slice none 0 0] 45)) w.heap.size pc many (.slice (some ⟨g, 0, none⟩) ops.length cap) := (((Below.refl _ _).alloc (Nat.le_refl _) _).block _ (by simp)).trans (heap_alloc_new w _)
  have hb2 : ((w.alloc (.cells #[.int .u32 pc, .int .i64 (many : Int), .slice (some ⟨g, 0, none⟩) ops.length cap] 34)).alloc (.cells #[.int .u32 0, .int .i64 0, .slice none 0 0] 45)).heap[w.heap.size + 1]? = some (Obj.cells #[.int .u32 0, .int .i64 0, .slice none 0 0] 45 (0, 0)) := by
    have := heap_alloc_new (w.alloc (.cells #[.int .u32 pc, .int .i64 (many : Int), .slice (some ⟨g, 0, none⟩) ops.length cap] 34)) (.cells #[.int .u32 0, .int .i64 0, .slice none 0 0] 45)
    simp only [World.size_alloc] at this
    exact this
  have hmx := (hA2.cell (p := ⟨8, 0, none⟩) (World.block_lt_of_cell? _ _ hm)).trans hm
  have HO := Lib.hid (h.below hA2 h.lt)
  have HA := Lib.hid hA2
  have HB1 := Lib.hid hb1
  have HB2 := Lib.hid hb2
  have HMX := Lib.hid hmx
  have HSZ : Hid (((w.alloc (.cells #[.int .u32 pc, .int .i64 (many : Int), .slice (some ⟨g, 0, none⟩) ops.length cap] 34)).alloc (.cells #[.int .u32 0, .int .i64 0, .slice none 0 0] 45)).heap.size = w.heap.size + 2) := Lib.hid (by simp)
  clear hA1 hA2 hb1 hb2 hmx h hc hm
  have hmm := @run_makeMap Tryz.prog
  go_enter Tryz.func8, Tryz.ntmps8
  go_wp2_with fail
  generalize (w.alloc (.cells #[.int .u32 pc, .int .i64 (many : Int), .slice (some ⟨g, 0, none⟩) ops.length cap] 34)).alloc (.cells #[.int .u32 0, .int .i64 0, .slice none 0 0] 45) = W1 at *
  obtain ⟨b0, b1, b2, bf⟩ := plan_cells HB1.out
  go_wp2_with fail
  refine (irCheck_ok HO.out HC.out HMX.out).mono ?_
  rintro e W2 ⟨rfl, hbc⟩
  have HO2 := Lib.hid (HO.out.below hbc HO.out.lt)
  have HA2 := Lib.hid (HA.out.trans (hbc.mono HA.out.size))
  have HB12 := Lib.hid ((hbc.block _ (Array.getElem?_eq_some_iff.1 HB1.out).1).trans HB1.out)
  have HB22 := Lib.hid ((hbc.block _ (Array.getElem?_eq_some_iff.1 HB2.out).1).trans HB2.out)
  have HS2 : Hid (w.heap.size + 2 ≤ W2.heap.size) := Lib.hid (by have := hbc.size; have := HSZ.out; omega)
  clear hbc HO HA HB1 HB2 HMX HSZ b0 b1 b2 bf
  have HM0 := Lib.hid (MkW.new0 W2)
  have hd3 := (((Below.refl W2.heap.size W2).alloc (Nat.le_refl _) (.map #[] 0)).alloc (by simp) (.map #[] 0)).alloc (by simp; omega) (.cells #[.slice none 0 0, .map (some W2.heap.size), .map (some (W2.heap.size + 1)), .int .i64 (-1), .int .i64 (-1), .int .i64 0, .int .i64 0] 79)
  have HD3 := Lib.hid hd3
  have b2 := (plan_cells ((hd3.block _ (Array.getElem?_eq_some_iff.1 HB12.out).1).trans HB12.out)).2.2.1
  clear hd3
  have HSW : Hid (W2.heap.size ≤ (((W2.alloc (.map #[] 0)).alloc (.map #[] 0)).alloc (.cells #[.slice none 0 0, .map (some W2.heap.size), .map (some (W2.heap.size + 1)), .int .i64 (-1), .int .i64 (-1), .int .i64 0, .int .i64 0] 79)).heap.size) := Lib.hid HD3.out.size
  have HZ := Lib.hid (show ∀ j, j ≤ ops.length → MkOK ((ops.take j).foldl layM mk0) ∧ ((ops.take j).foldl layM mk0).rows.length ≤ j ∧ (0 < j → ((ops.take j).foldl layM mk0).rows ≠ []) from by
    intro j
    induction j with
    | zero => exact fun _ => ⟨by rw [List.take_zero]; exact mk0_ok, by rw [List.take_zero]; exact Nat.le_refl _, fun h => absurd h (Nat.lt_irrefl 0)⟩
    | succ j ih =>
      intro hj
      obtain ⟨h1, h2, _⟩ := ih (by omega)
      rw [List.take_succ_eq_append_getElem (by omega), List.foldl_append]
      have := lay_len h1 (ops[j]'(by omega))
      exact ⟨lay_ok h1 _, by show (layM _ _).rows.length ≤ _; omega, fun _ => this.2⟩)
  go_wp2_with (fail)
  go_loopw [7, 21] (fun bv iv wr => ∃ (j : Nat) (rv : Value) (vs : List Value), j ≤ ops.length ∧ iv = .int .i64 (j : Int) ∧ Hid (MkW wr W2.heap.size (W2.heap.size + 1 + 1) ((ops.take j).foldl layM mk0) rv vs W2.heap.size (W2.heap.size + 1) (4 * j)) ∧ Hid (Below W2.heap.size W2 wr)) (fun _ iv _ => ops.length - (intOf iv).toNat)
  case atStart => exact ⟨0, _, _, Nat.zero_le _, rfl, HM0, HD3⟩
  case round =>
    obtain ⟨j, rv, vs, hj, rfl, HMJ, HDJ⟩ := hrel
    by_cases hlt : j < ops.length
    · have hjI : (j : Int) < (ops.length : Int) := by omega
      have hoj := HO2.out.below HDJ.out HO2.out.lt
      obtain ⟨c0, c1, c2, c3, c4, c5⟩ := hoj.cells j hlt
      have HK := Lib.hid hlt
      have HG := Lib.hid (HC.out.good _ (List.getElem_mem hlt)).2.1
      have HZJ := Lib.hid (HZ.out j (by omega))
      have HTK := Lib.hid (show layM ((ops.take j).foldl layM mk0) ops[j] = (ops.take (j + 1)).foldl layM mk0 by rw [List.take_succ_eq_append_getElem hlt, List.foldl_append]; rfl)
      clear hoj HM0 HD3 HSW HZ
      generalize (ops.take j).foldl layM mk0 = M at *
      generalize ops[j] = o at *
      obtain ⟨k, d, a, b, im, n⟩ := o
      simp only at c0 c1 c2 c3 c4 c5
      rw [lit_text] at c0
      clear hlt b2
      have hAX := (Below.refl wr.heap.size wr).alloc (Nat.le_refl _) (.cells #[.string k.lit, .int .i64 (d : Int), .int .i64 (a : Int), .int .i64 b, .int .u32 im, .int .i64 (n : Int)] 61)
      have HMX := Lib.hid (HMJ.out.below hAX)
      have HDX := Lib.hid (HDJ.out.trans (hAX.mono HDJ.out.size))
      have HLY := Lib.hid (lay_at HMX.out HDX.out.size (HZJ.out.1.small (by have := HZJ.out.2.1; have := HK.out; have := HL.out; omega)) (by have := HZJ.out.2.1; have := HK.out; have := HL.out; omega) HZJ.out.1 (by have := HK.out; have := HL.out; omega) HG.out)
      clear hAX HMX
      go_wp2_with fail
      generalize wr.alloc _ = X at *
      refine HLY.out.mono ?_
      rintro e w3 ⟨rfl, ⟨rv3, vs3, hm3⟩, hb3⟩
      have HM3 := Lib.hid hm3
      have HB3 := Lib.hid (HDX.out.trans hb3)
      clear hm3 hb3 HLY HDX
      go_wp2_with fail
      go_roundw
      case rel =>
        refine ⟨j + 1, rv3, vs3, HK.out, by go_num, ?_, HB3⟩
        rw [← HTK.out]
        exact HM3
      case measure => have := HK.out; go_light; simp [intOf]; omega
    · obtain rfl : j = ops.length := by omega
      have hd : decide ((ops.length : Int) < (ops.length : Int)) = false := decide_eq_false (by omega)
      rw [List.take_length] at HMJ
      have HZN := Lib.hid (HZ.out ops.length (Nat.le_refl _))
      rw [List.take_length] at HZN
      have HR := Lib.hid (show PRowsAt wr W2.heap.size rv (makeZ ops) from HMJ.out.rowsAt HZN.out.1.ne (HZN.out.2.2 HC.out.ne))
      obtain ⟨p0, p1, p2, pf⟩ := plan_cells ((HDJ.out.block _ (Array.getElem?_eq_some_iff.1 HB12.out).1).trans HB12.out)
      obtain ⟨q0, q1, q2, qf⟩ := plan_cells ((HDJ.out.block _ (Array.getElem?_eq_some_iff.1 HB22.out).1).trans HB22.out)
      obtain ⟨⟨x0, x1, x3, x4, x5, x6, x7⟩, xf⟩ := seven_cells HMJ.out.blk
      obtain ⟨gr, capr, hrv, hBr, _, _⟩ := id HR.out.ex
      subst hrv
      have HBR := Lib.hid hBr
      have HB2S := Lib.hid ((HDJ.out.block _ (Array.getElem?_eq_some_iff.1 HB22.out).1).trans HB22.out)
      clear HM0 HD3 HSW HZ b2 HMJ hBr
      go_wp2_with fail
      go_region
      have hbw9 : Below w.heap.size w (((wr.setCell ⟨w.heap.size + 1, 0, none⟩ (.int .u32 pc)).setCell ⟨w.heap.size + 1, 1, none⟩ (.int .i64 (many : Int))).setCell ⟨w.heap.size + 1, 2, none⟩ (.slice (some ⟨gr, 0, none⟩) (makeZ ops).length capr)).drew := ((((HA2.out.trans (HDJ.out.mono HA2.out.size)).setCell (p := ⟨w.heap.size + 1, 0, none⟩) (Nat.le_succ _) _).setCell (p := ⟨w.heap.size + 1, 1, none⟩) (Nat.le_succ _) _).setCell (p := ⟨w.heap.size + 1, 2, none⟩) (Nat.le_succ _) _).drew
      have hr9 : PRowsAt ((((wr.setCell ⟨w.heap.size + 1, 0, none⟩ (.int .u32 pc)).setCell ⟨w.heap.size + 1, 1, none⟩ (.int .i64 (many : Int))).setCell ⟨w.heap.size + 1, 2, none⟩ (.slice (some ⟨gr, 0, none⟩) (makeZ ops).length capr)).drew) W2.heap.size (.slice (some ⟨gr, 0, none⟩) (makeZ ops).length capr) (makeZ ops) :=
        HR.out.keep (fun k hk _ => by
          have hne : k ≠ w.heap.size + 1 := by have := HS2.out; omega
          show (((wr.setCell _ _).setCell _ _).setCell _ _).heap[k]? = _
          rw [setCell_other _ _ _ _ _ hne, setCell_other _ _ _ _ _ hne, setCell_other _ _ _ _ _ hne]) (by show _ ≤ (((wr.setCell _ _).setCell _ _).setCell _ _).heap.size; simp)
      have h0 := HB2S.out
      have h9 := Joins.block_setCell (i := 2) (Joins.block_setCell (i := 1) (Joins.block_setCell (i := 0) h0 (.int .u32 pc)) (.int .i64 (many : Int))) (.slice (some ⟨gr, 0, none⟩) (makeZ ops).length capr)
      have HB9 := Lib.hid hbw9
      have HR9 := Lib.hid (hr9.mono HA2.out.size)
      obtain ⟨y0, y1, y2, _⟩ := plan_cells (w := (((wr.setCell ⟨w.heap.size + 1, 0, none⟩ (.int .u32 pc)).setCell ⟨w.heap.size + 1, 1, none⟩ (.int .i64 (many : Int))).setCell ⟨w.heap.size + 1, 2, none⟩ (.slice (some ⟨gr, 0, none⟩) (makeZ ops).length capr)).drew) (x := .int .u32 pc) (y := .int .i64 (many : Int)) (z := .slice (some ⟨gr, 0, none⟩) (makeZ ops).length capr) h9
      clear hbw9 hr9 h0 h9 p0 p1 p2 pf q0 q1 q2 qf x0 x1 x3 x4 x5 x6 x7 xf
      generalize (((wr.setCell ⟨w.heap.size + 1, 0, none⟩ (.int .u32 pc)).setCell ⟨w.heap.size + 1, 1, none⟩ (.int .i64 (many : Int))).setCell ⟨w.heap.size + 1, 2, none⟩ (.slice (some ⟨gr, 0, none⟩) (makeZ ops).length capr)).drew = W9 at *
      go_wp2_with fail
      exact bodyPost_ret (v := .tuple #[.agg #[.int .u32 pc, .int .i64 (many : Int), .slice (some ⟨gr, 0, none⟩) (makeZ ops).length capr], .nilIface]) (by simp [results, Tryz.results8, go_sem, y0, y1, y2]) rfl ⟨HB9.out, _, rfl, HR9.out⟩
end Go.Proofs.YtlnefmgiiogcmaaGreatDoor
namespace Go.Proofs.YtlnefmgiiogcmaaGreatDoor
open Go.RowKit
def zeroOp : Array Value := #[.string ByteArray.empty, .int .i64 0, .int .i64 0, .int .i64 0, .int .u32 0, .int .i64 0]
theorem run_clear_one {P : Program} (w : World) (t e ty : TypeId) (z : Value) (ht : P.underlying t = some (.slice e)) (hv : ∀ w, (zeroValue e).run P w = .ok z w) (h1 : ∀ v ∈ z.cells.toList, v.oneCell' = true) (b o c : Nat)
    (hc : ∀ j, j < z.cells.size → (w.cell? ⟨b, o + j, none⟩).isSome = true) (hf : ∀ j, j < z.cells.size → w.frozen? ⟨b, o + j, none⟩ = false) :
    (Builtin.clear_ #[t] ty #[.slice (some ⟨b, o, none⟩) 1 c]).run P w = .ok (.tuple #[]) (w.setCells b o z.cells.toList) := by
  have hzc : (Builtin.zeroCells z.cells 1).toList = z.cells.toList := by
    simp [Builtin.zeroCells]
    apply List.ext_getElem
    · simp
    · intro i h1 h2
      have h3 : i < z.cells.size := by simpa using h2
      simp [Nat.mod_eq_of_lt h3, h3]
  have hst := run_storeCells_cells (P := P) b o z.cells.toList 0 w (by simpa using hc) (by simpa using hf) h1
  simp only [Nat.add_zero] at hst
  simp [Builtin.clear_, run_underlying ht, hv, hzc, hst]
theorem flat_drop (l : List OpN) (i j c : Nat) (hj : i + j < l.length) (hc : c < 6) : ((l.drop i).flatMap opC)[j * 6 + c]? = (opC l[i + j])[c]? := by
  have h1 : j < (l.drop i).length := by rw [List.length_drop]; omega
  rw [flat6 (l.drop i) j h1 c hc, List.getElem_drop]
theorem OpsW.close {w : World} {g i : Nat} {l : List OpN} (h : OpsW w g l) (hi : i + 1 < l.length) : OpsW (w.setCells g (i * 6) ((l.drop (i + 1)).flatMap opC)) g (l.eraseIdx i) := by
  have hlen : (l.eraseIdx i).length = l.length - 1 := by rw [List.length_eraseIdx, if_pos (by omega)]
  have hfl : ((l.drop (i + 1)).flatMap opC).length = (l.length - (i + 1)) * 6 := by rw [flat_len, List.length_drop]
  obtain ⟨n, f, h1, h2⟩ := h.ty
  have hth : w.there g (i * 6) ((l.drop (i + 1)).flatMap opC).length := fun c hc => by
    rw [hfl] at hc
    have h3 := h.there (j := (i * 6 + c) / 6) (by omega) ((i * 6 + c) % 6) (by omega)
    rw [show (i * 6 + c) / 6 * 6 + (i * 6 + c) % 6 = i * 6 + c by omega] at h3
    exact h3
  have hsame := World.rangeAt_setCells_same w g (i * 6) _ hth
  refine ⟨⟨fun k hk => ?_, Nat.lt_of_lt_of_le h.is.lt (Kept.setCells g _ w (i * 6)).below.size⟩, n, _, Row.setCells _ w f (i * 6) h1 (by rw [hfl]; omega), by rw [hlen]; omega⟩
  rw [hlen] at hk
  by_cases e : k < i
  · rw [List.getElem_eraseIdx_of_lt (h' := e)]
    exact World.rangeAt_setCells_apart (h.is.row k (by omega)) g (i * 6) _ (Or.inr (Or.inl (by simp [opC]; omega)))
  · intro c u hu
    have hc : c < 6 := by simpa [opC] using (List.getElem?_eq_some_iff.1 hu).1
    rw [List.getElem_eraseIdx_of_ge (h' := by omega)] at hu
    have h3 := flat_drop l (i + 1) (k - i) c (by omega) hc
    have h4 := hsame ((k - i) * 6 + c) u (by
      rw [h3, ← hu]
      congr 2
      congr 1
      omega)
    rw [show i * 6 + ((k - i) * 6 + c) = k * 6 + c by omega] at h4
    exact h4
theorem OpsW.tail {w : World} {g : Nat} {l : List OpN} (h : OpsW w g l) (cs : List Value) (hn : ∃ n f, Row w g 61 n f ∧ l.length * 6 + cs.length ≤ n) : OpsW (w.setCells g (l.length * 6) cs) g l := by
  obtain ⟨n, f, h1, h2⟩ := hn
  refine ⟨⟨fun k hk => ?_, Nat.lt_of_lt_of_le h.is.lt (Kept.setCells g _ w _).below.size⟩, n, _, Row.setCells _ w f _ h1 h2, by omega⟩
  exact World.rangeAt_setCells_apart (h.is.row k hk) g _ _ (Or.inr (Or.inl (by simp [opC]; omega)))
theorem all_oneCell_mem {v : Value} (hv : v ∈ zeroOp.toList) : v.oneCell' = true := by
  simp only [zeroOp, List.mem_cons, List.not_mem_nil, or_false] at hv
  rcases hv with rfl | rfl | rfl | rfl | rfl | rfl <;> rfl
theorem Tryz.zeroOpV (w : World) : (zeroValue 61).run Tryz.prog w = .ok (.agg zeroOp) w := by kernel_rfl
theorem flat_drop_cell {w : World} {g i : Nat} {l : List OpN} (h : OpsAt w g l) (hi : i ≤ l.length) : ∀ j u, ((l.drop i).flatMap opC)[j]? = some u → w.cell? ⟨g, i * 6 + j, none⟩ = some u := by
  intro j u hj
  have hlt := (List.getElem?_eq_some_iff.1 hj).1
  rw [flat_len, List.length_drop] at hlt
  have h2 := flat_drop l i (j / 6) (j % 6) (by omega) (by omega)
  rw [show j / 6 * 6 + j % 6 = j by omega, hj] at h2
  have := h.row (i + j / 6) (by omega) (j % 6) u h2.symm
  rw [show (i + j / 6) * 6 + j % 6 = i * 6 + j by omega] at this
  exact this
def DelP (w : World) (g cap : Nat) (l : List OpN) (e : Ending) (w' : World) : Prop := e = .returned (.slice (some ⟨g, 0, none⟩) l.length cap) ∧ OpsW w' g l ∧ Kept (fun k => k = g) w w'
set_option maxHeartbeats 8000000 in
set_option maxRecDepth 100000 in
theorem deleteOp {w : World} {g cap i : Nat} {l : List OpN} (h : OpsW w g l) (hi : i + 1 < l.length) (hl : l.length ≤ 100) (hcap : l.length ≤ cap) :
    Calls Tryz.prog 51 #[.slice (some ⟨g, 0, none⟩) l.length cap, .int .i64 (i : Int), .int .i64 ((i : Int) + 1)] w fun e w' => DelP w g cap (l.eraseIdx i) e w' := by
  obtain ⟨iS, hS1, hS2, hS3, hS4⟩ := info_parts Tryz.infoO
  have hlen : (l.eraseIdx i).length = l.length - 1 := by rw [List.length_eraseIdx, if_pos (by omega)]
  obtain ⟨M, hM⟩ : ∃ M, l.length = M + 1 := ⟨l.length - 1, by omega⟩
  rw [hM] at hcap hl
  have HI := Lib.hid (show i < M by omega)
  have HN := Lib.hid hM
  have HLN := Lib.hid (show (l.eraseIdx i).length = M by rw [hlen, hM]; rfl)
  have HH := Lib.hid h
  have hiI : (i : Int) + 1 < (M : Int) + 1 := by omega
  have hiM : (i : Int) < (M : Int) + 1 := by omega
  have hi0 : (0 : Int) ≤ (i : Int) := by omega
  have hlI : (M : Int) ≤ 99 := by omega
  have hcI : (M : Int) + 1 ≤ (cap : Int) := by omega
  have hcM : (M : Int) ≤ (cap : Int) := by omega
  have hicI : (i : Int) ≤ (cap : Int) := by omega
  have h01I : (0 : Int) ≤ (i : Int) + 1 := by omega
  have hcn : ¬ cap = i + 1 := by omega
  have hcn2 : ¬ cap = M := by omega
  have hi1I : (i : Int) + 1 ≤ (M : Int) + 1 := by omega
  have hne : ((i : Int) == (i : Int) + 1) = false := by rw [beq_eq_false_iff_ne]; omega
  have HFL : Hid (((l.drop (i + 1)).flatMap opC).length = (M + 1 - (i + 1)) * 6) := Lib.hid (by rw [flat_len, List.length_drop, hM])
  have HCC := Lib.hid hcap
  show Calls _ _ #[.slice (some ⟨g, 0, none⟩) l.length cap, _, _] _ _
  rw [hM]
  clear h hi hl hcap hM hlen
  go_enter Tryz.func51, Tryz.ntmps51
  go_wp2_with fail
  go_region_law (refine step_append_room rfl (.tmp 22) (.tmp 25) 32 rfl 61 iS 6 Tryz.underlying32 hS1 hS3 g 0 i cap (by simp [Act.eval, Act.put]) ⟨g, (i + 1) * 6, none⟩ (M + 1 - (i + 1)) (cap - (i + 1)) ((l.drop (i + 1)).flatMap opC) (by simp [Act.eval, Act.put]) HFL.out (fun j u hj => by rw [Addr.add_mid]; exact flat_drop_cell HH.out.is (by have := HI.out; have := HN.out; omega) j u hj) (flat_one _) (by have := HI.out; have := HCC.out; omega) (fun j hj => by rw [HFL.out] at hj; have h3 := HH.out.there (j := (i * 6 + j) / 6) (by have := HI.out; have := HN.out; omega) ((i * 6 + j) % 6) (by omega); rw [show (i * 6 + j) / 6 * 6 + (i * 6 + j) % 6 = i * 6 + j by omega] at h3; rw [Nat.zero_add]; exact h3) ?_)
  rw [show i + (M - i) = M by have := HI.out; omega]
  have hh1 : OpsW w.drew g l := HH.out.of_block rfl
  have how := hh1.close (i := i) (by have := HI.out; have := HN.out; omega)
  have hk1 := (Kept.of_below (S := fun k => k = g) (Below.refl w.heap.size w).drew).trans (Kept.setCells g ((l.drop (i + 1)).flatMap opC) w.drew (i * 6))
  obtain ⟨n, f, hr1, hn1⟩ := hh1.ty
  have hr2 := Row.setCells ((l.drop (i + 1)).flatMap opC) w.drew f (i * 6) hr1 (by rw [HFL.out]; have := HN.out; have := HI.out; omega)
  rw [HN.out] at hn1
  generalize w.drew.setCells g (i * 6) ((l.drop (i + 1)).flatMap opC) = W1 at *
  have hcl : ∀ ty, (Builtin.clear_ #[32] ty #[.slice (some ⟨g, M * 6, none⟩) 1 (cap - M)]).run Tryz.prog W1 = .ok (.tuple #[]) (W1.setCells g (M * 6) zeroOp.toList) := fun ty => run_clear_one W1 32 61 ty (.agg zeroOp) Tryz.underlying32 Tryz.zeroOpV (fun v hv => all_oneCell_mem hv) g (M * 6) (cap - M) (fun j hj => by
    have hj6 : j < 6 := hj
    rw [hr2.cell (show M * 6 + j < n by omega)]
    rfl) (fun j hj => hr2.free _)
  have HOW := Lib.hid (show OpsW (W1.setCells g (M * 6) zeroOp.toList) g (l.eraseIdx i) by
    have := how.tail zeroOp.toList ⟨n, _, hr2, by rw [HLN.out]; show M * 6 + 6 ≤ n; omega⟩
    rw [HLN.out] at this
    exact this)
  have HK := Lib.hid (hk1.trans (Kept.setCells g zeroOp.toList W1 (M * 6)))
  clear hh1 how hk1 hr1 hr2 hn1
  go_wp2
  go_ret
  exact ⟨by rw [HLN.out]; rfl, HOW.out, HK.out⟩
end Go.Proofs.YtlnefmgiiogcmaaGreatDoor
namespace Go.Proofs.YtlnefmgiiogcmaaGreatDoor
open Go.RowKit
def PGrowP (w : World) (e : Ending) (w' : World) : Prop := ∃ cap, e = .returned (.slice (some ⟨w.heap.size, 0, none⟩) 0 cap) ∧ w'.ownsRow w.heap.size 61 6 (.slice (some ⟨w.heap.size, 0, none⟩) 0 cap) 0 [] ∧ Below w.heap.size w w'
set_option maxHeartbeats 8000000 in
theorem grow_nil (n : Nat) (h0 : 0 < n) (hn : n ≤ 1000) (w : World) :
    Calls Tryz.prog 93 #[.slice none 0 0, .int .i64 (n : Int)] w fun e w' => PGrowP w e w' := by
  obtain ⟨iS, hS1, hS2, hS3, hS4⟩ := info_parts Tryz.infoO
  have hrz : ∀ ty, (Builtin.append_ #[32, 3] ty #[.slice none 0 0, .int .i64 (n : Int)]).run Tryz.prog w = .ok (.slice (some ⟨w.heap.size, 0, none⟩) n (grownCap w n 0 61)) (w.drew.alloc (.cells (Builtin.zeroCells zeroOp n ++ Builtin.zeroCells zeroOp (grownCap w n 0 61 - n)) 61)) := fun ty => by
    have h := Lib.run_append_grow_zeros w 32 3 ty 61 iS _ .i64 .i64 Tryz.underlying32 Tryz.underlying3 hS1 hS2 none 0 0 [] (run_firstCells_none w.drew iS.size 0 0 0) n h0 (by rw [hS3]; decide) (by omega) (by omega) (by rw [hS4]; omega) (by
      rw [hS4]
      have e : Builtin.nextslicecap (0 + n) 0 = n := by
        rw [Nat.zero_add]
        unfold Builtin.nextslicecap
        simp [h0]
      rw [e]
      omega)
    rw [Nat.zero_add] at h
    have e2 : (([] : List Value).toArray ++ Builtin.zeroCells zeroOp n) = Builtin.zeroCells zeroOp n := by simp
    have h2 : _ = Result.ok _ (w.drew.alloc (.cells (([] : List Value).toArray ++ Builtin.zeroCells zeroOp n ++ Builtin.zeroCells zeroOp (grownCap w n 0 61 - n)) 61)) := h
    rw [e2] at h2
    exact h2
  have hG1 := grownCap_ge w n 0 61
  have hG2 := grownCap_le_maxLen w n 0 61 (by unfold maxLen; omega)
  generalize grownCap w n 0 61 = G at *
  have hG3 : (G : Int) ≤ 9223372036854775807 := by unfold maxLen at hG2; omega
  have hown := World.ownsRow_made (base := w.drew.heap.size) (e := 61) (size := 6) w.drew (Builtin.zeroCells zeroOp n ++ Builtin.zeroCells zeroOp (G - n)) G (Nat.le_refl _) hG2 (by
    rw [Array.size_append, size_zeroCells, size_zeroCells]
    show n * 6 + (G - n) * 6 = G * 6
    omega)
  have HOWN := Lib.hid hown
  have hnI : (0 : Int) < (n : Int) := by omega
  have hnI2 : (n : Int) ≤ 1000 := by omega
  have HG1 := Lib.hid hG1
  clear hown hG1 hG2 hS1 hS2 hS3 hS4
  have hb := ((Below.refl w.heap.size w).drew).alloc (Nat.le_refl _) (.cells (Builtin.zeroCells zeroOp n ++ Builtin.zeroCells zeroOp (G - n)) 61)
  have HB := Lib.hid hb
  clear hb
  go_enter Tryz.func93, Tryz.ntmps93
  generalize Builtin.zeroCells zeroOp n ++ Builtin.zeroCells zeroOp (G - n) = ZC at *
  go_wp2_with (at_builtin; refine Lib.wpList_append_run _ rfl _ _ _ _ rfl _ _ rfl rfl _ _ (hrz _) ?_)
  all_goals (go_ret; exact ⟨G, rfl, HOWN.out, HB.out⟩)
def PConcatP (w : World) (l : List OpN) (e : Ending) (w' : World) : Prop := ∃ g cap, e = .returned (.slice (some ⟨g, 0, none⟩) l.length cap) ∧ OpsAt w' g l ∧ Below w.heap.size w w'
theorem flat_take (rows : List (List OpN)) {j : Nat} (hj : j < rows.length) : (rows.take (j + 1)).flatten = (rows.take j).flatten ++ rows[j] := by
  rw [List.take_succ_eq_append_getElem hj, List.flatten_append]
  simp
theorem flat_le (rows : List (List OpN)) (j : Nat) : (rows.take j).flatten.length ≤ rows.flatten.length := by
  conv => rhs; rw [← List.take_append_drop j rows]
  rw [List.flatten_append, List.length_append]
  omega
def flatN (rows : List (List OpN)) : Nat := rows.flatten.length
set_option maxHeartbeats 16000000 in
set_option maxRecDepth 100000 in
theorem concat_rows {w : World} {B : Nat} {rv : Value} {rows : List (List OpN)} (h : PRowsAt w B rv rows) (h0 : rows ≠ []) (hn : ∀ r ∈ rows, r ≠ []) (hf : rows.flatten.length ≤ 100) :
    Calls Tryz.prog 62 #[rv] w fun e w' => PConcatP w rows.flatten e w' := by
  have HF : Hid (flatN rows ≤ 100) := Lib.hid hf
  have HN := Lib.hid hn
  have HR := Lib.hid h
  have hrl : rows.length ≤ 100 := by
    have := rows_le rows hn
    omega
  have HRL := Lib.hid hrl
  have hpos := List.length_pos_iff.2 h0
  have hfp : 0 < rows.flatten.length := by
    have := rows_le rows hn
    omega
  have HFP : Hid (0 < flatN rows) := Lib.hid hfp
  have hff : flatN rows ≤ 100 := hf
  have hfq : 0 < flatN rows := hfp
  obtain ⟨gr, capr, hrv, hBr, hgl, hrow⟩ := h.ex
  subst hrv
  have HROW := Lib.hid hrow
  have hrI : (rows.length : Int) ≤ 100 := by omega
  have hrI0 : (0 : Int) < (rows.length : Int) := by omega
  have hfI : (0 : Int) < (flatN rows : Int) := by omega
  have hfI2 : (flatN rows : Int) ≤ 100 := by omega
  obtain ⟨iS, hS1, hS2, hS3, hS4⟩ := info_parts Tryz.infoO
  clear hrow h hf hn h0 hfp hBr hpos hrl hff hfq
  go_enter Tryz.func62, Tryz.ntmps62
  go_wp2_with fail
  go_loopw [3, 5, 11] (fun sv bv iv wr => ∃ j : Nat, j ≤ rows.length ∧ iv = .int .i64 (j : Int) ∧ sv = .int .i64 (flatN (rows.take j) : Int) ∧ w = wr) (fun _ _ iv _ => rows.length - (intOf iv).toNat)
  case atStart => exact ⟨0, Nat.zero_le _, rfl, rfl, rfl⟩
  case round =>
    obtain ⟨j, hj, rfl, rfl, rfl⟩ := hrel
    by_cases hlt : j < rows.length
    · have hjI : (j : Int) < (rows.length : Int) := by omega
      obtain ⟨gj, capj, c0, -, -⟩ := HROW.out j hlt
      have HS := Lib.hid (show flatN (rows.take (j + 1)) = flatN (rows.take j) + rows[j].length by unfold flatN; rw [flat_take rows hlt, List.length_append])
      have hle : flatN (rows.take (j + 1)) ≤ flatN rows := flat_le rows (j + 1)
      rw [HS.out] at hle
      have HK := Lib.hid hlt
      have h1 : ((flatN (rows.take j) : Nat) : Int) + ((rows[j].length : Nat) : Int) ≤ 100 := by omega
      have h2 : (0 : Int) ≤ ((flatN (rows.take j) : Nat) : Int) := by omega
      have h3 : (0 : Int) ≤ ((rows[j].length : Nat) : Int) := by omega
      have HE : Hid (((flatN (rows.take (j + 1)) : Nat) : Int) = ((flatN (rows.take j) : Nat) : Int) + ((rows[j].length : Nat) : Int)) := Lib.hid (by rw [HS.out]; omega)
      clear hle HS
      generalize flatN (rows.take j) = s0 at *
      generalize rows[j].length = s1 at *
      clear hlt
      go_wp2_with fail
      go_roundw
      case rel => exact ⟨j + 1, HK.out, by go_num, by rw [HE.out], trivial⟩
      case measure => have := HK.out; go_light; simp [intOf]; omega
    · obtain rfl : j = rows.length := by omega
      have hd : decide ((rows.length : Int) < (rows.length : Int)) = false := decide_eq_false (by omega)
      rw [List.take_length]
      have HGW := Lib.hid (grow_nil (flatN rows) (by have := HFP.out; omega) (by have := HF.out; omega) w)
      go_wp2_with fail
      refine HGW.out.mono ?_
      rintro e w2 ⟨cp, rfl, hown, hb2⟩
      have HOW0 : Hid (w2.ownsRow w.heap.size 61 6 (.slice (some ⟨w.heap.size, 0, none⟩) 0 cp) (flatN (rows.take 0)) ((rows.take 0).flatten.flatMap opC)) := Lib.hid (by simpa [flatN] using hown)
      have HBW0 := Lib.hid hb2
      clear hown hb2 HGW hd
      go_wp2_with fail
      go_loopw [6, 8, 27] (fun v bv iv wr => ∃ j : Nat, j ≤ rows.length ∧ iv = .int .i64 (j : Int) ∧ Hid (wr.ownsRow w.heap.size 61 6 v (flatN (rows.take j)) ((rows.take j).flatten.flatMap opC)) ∧ Hid (Below w.heap.size w wr)) (fun _ _ iv _ => rows.length - (intOf iv).toNat)
      case atStart => exact ⟨0, Nat.zero_le _, rfl, HOW0, HBW0⟩
      case round =>
        obtain ⟨j, hj, rfl, HOJ, HBJ⟩ := hrel
        by_cases hlt : j < rows.length
        · have hjI : (j : Int) < (rows.length : Int) := by omega
          obtain ⟨gj, capj, c0', -, hat', -⟩ := HROW.out j hlt
          have c0 := (HBJ.out.cell (p := ⟨gr, j, none⟩) (World.block_lt_of_cell? _ _ c0')).trans c0'
          have HAT := Lib.hid (hat'.below HBJ.out hat'.lt)
          have HK := Lib.hid hlt
          have HS := Lib.hid (show flatN (rows.take (j + 1)) = flatN (rows.take j) + rows[j].length by unfold flatN; rw [flat_take rows hlt, List.length_append]; rfl)
          have HC := Lib.hid (show (rows.take (j + 1)).flatten.flatMap opC = (rows.take j).flatten.flatMap opC ++ rows[j].flatMap opC by rw [flat_take rows hlt, List.flatMap_append]; rfl)
          have hle : flatN (rows.take (j + 1)) ≤ flatN rows := flat_le rows (j + 1)
          rw [HS.out] at hle
          have HLE := Lib.hid (show flatN (rows.take j) + rows[j].length ≤ 100 by have := HF.out; omega)
          clear hle c0' hat'
          generalize hR : rows[j] = R at *
          clear hR hlt
          go_wp2_with (at_builtin; refine wpList_append_own _ rfl _ _ 32 rfl w.heap.size 61 iS (.agg #[.string ByteArray.empty, .int .i64 0, .int .i64 0, .int .i64 0, .int .u32 0, .int .i64 0]) 6 56 Tryz.underlying32 hS1 hS2 hS3 hS4 rfl (by decide) _ (flatN (rows.take j)) ((rows.take j).flatten.flatMap opC) rfl HOJ.out ⟨gj, 0, none⟩ R.length capj (R.flatMap opC) rfl ?qc1 ?qc2 ?qc3 ?qc4 ?qc5 ?qc6 ?_)
          case qc1 => exact flat_len R
          case qc2 =>
            intro j u hj
            rw [addr_add]
            exact HAT.out.flat j u hj
          case qc3 => exact flat_one R
          case qc4 => have := HLE.out; unfold maxLen; omega
          case qc5 => have := HLE.out; omega
          case qc6 => exact HBJ.out.size
          intro v' w3 hown hgrow hnil
          have HO3 := Lib.hid hown
          have HB3 : Hid (Below w.heap.size w w3) := Lib.hid (HBJ.out.grown hgrow HBJ.out.size (fun k hk => own_base HOJ.out hk))
          clear hown hgrow hnil HOJ HBJ c0
          go_wp2_with fail
          go_roundw
          case rel =>
            refine ⟨j + 1, HK.out, by go_num, ?_, HB3⟩
            rw [HS.out, HC.out]
            exact HO3
          case measure => have := HK.out; go_light; simp [intOf]; omega
        · obtain rfl : j = rows.length := by omega
          have hd : decide ((rows.length : Int) < (rows.length : Int)) = false := decide_eq_false (by omega)
          rw [List.take_length] at HOJ
          obtain ⟨g, cap, hv, -, -, hat⟩ := opsAt_own (ops := rows.flatten) HOJ.out HFP.out
          subst hv
          have HAT := Lib.hid hat
          clear hat HOJ
          go_wp2
          go_ret
          exact ⟨g, cap, rfl, HAT.out, HBJ.out⟩
end Go.Proofs.YtlnefmgiiogcmaaGreatDoor
namespace Go.Proofs.YtlnefmgiiogcmaaGreatDoor
open Go.RowKit
set_option maxHeartbeats 8000000 in
theorem row1_at {d a n p q : Nat} {b im : Int} (k : OpK) (w : World) (hp : w.cell? ⟨p, 0, none⟩ = some (.int .i64 (q : Int))) :
    Calls Tryz.prog 91 #[.agg #[.string k.lit, .int .i64 (d : Int), .int .i64 (a : Int), .int .i64 b, .int .u32 im, .int .i64 (n : Int)], .pointer (some ⟨p, 0, none⟩)] w fun e w' => e = .returned (.bool (wrO ⟨k, d, a, b, im, n⟩ == q)) ∧ Below w.heap.size w w' := by
  have HW := Lib.hid (fun wx => optWrites_at (d := d) (a := a) (n := n) (b := b) (im := im) k wx)
  have HQ : Hid (((wrO ⟨k, d, a, b, im, n⟩ : Int) == (q : Int)) = (wrO ⟨k, d, a, b, im, n⟩ == q)) := Lib.hid (by rw [Bool.eq_iff_iff, beq_iff_eq, beq_iff_eq]; omega)
  have hAl := (Below.refl w.heap.size w).alloc (Nat.le_refl _) (.cells #[.string k.lit, .int .i64 (d : Int), .int .i64 (a : Int), .int .i64 b, .int .u32 im, .int .i64 (n : Int)] 61)
  have hbx : (w.alloc (.cells #[.string k.lit, .int .i64 (d : Int), .int .i64 (a : Int), .int .i64 b, .int .u32 im, .int .i64 (n : Int)] 61)).heap[w.heap.size]? = some (.cells #[.string k.lit, .int .i64 (d : Int), .int .i64 (a : Int), .int .i64 b, .int .u32 im, .int .i64 (n : Int)] 61 (0, 0)) := heap_alloc_new w _
  have hp2 := (hAl.cell (p := ⟨p, 0, none⟩) (World.block_lt_of_cell? _ _ hp)).trans hp
  have HA := Lib.hid hAl
  have HX := Lib.hid hbx
  have HP := Lib.hid hp2
  clear hAl hbx hp2 hp
  go_enter Tryz.func91, Tryz.ntmps91
  go_wp2_with fail
  generalize hW : w.alloc (.cells #[.string k.lit, .int .i64 (d : Int), .int .i64 (a : Int), .int .i64 b, .int .u32 im, .int .i64 (n : Int)] 61) = W at *
  clear hW
  obtain ⟨c0, c1, c2, c3, c4, c5⟩ := six_cells HX.out
  have hp0 := HP.out
  generalize k.lit = kl at *
  generalize hwo : wrO ⟨k, d, a, b, im, n⟩ = wo at *
  have HWO := Lib.hid hwo
  clear hwo
  have HKS := Lib.hid (fun (w' : World) (hb : Below W.heap.size W w') => (⟨(hb.cell (World.block_lt_of_cell? _ _ c0)).trans c0, (hb.cell (World.block_lt_of_cell? _ _ c1)).trans c1, (hb.cell (World.block_lt_of_cell? _ _ c2)).trans c2, (hb.cell (World.block_lt_of_cell? _ _ c3)).trans c3, (hb.cell (World.block_lt_of_cell? _ _ c4)).trans c4, (hb.cell (World.block_lt_of_cell? _ _ c5)).trans c5, (hb.cell (World.block_lt_of_cell? _ _ hp0)).trans hp0, hb⟩ : w'.cell? ⟨w.heap.size, 0, none⟩ = some (.string kl) ∧ w'.cell? ⟨w.heap.size, 1, none⟩ = some (.int .i64 (d : Int)) ∧ w'.cell? ⟨w.heap.size, 2, none⟩ = some (.int .i64 (a : Int)) ∧ w'.cell? ⟨w.heap.size, 3, none⟩ = some (.int .i64 b) ∧ w'.cell? ⟨w.heap.size, 4, none⟩ = some (.int .u32 im) ∧ w'.cell? ⟨w.heap.size, 5, none⟩ = some (.int .i64 (n : Int)) ∧ w'.cell? ⟨p, 0, none⟩ = some (.int .i64 (q : Int)) ∧ Below W.heap.size W w'))
  go_region_held3 (fun w' => w'.cell? ⟨w.heap.size, 0, none⟩ = some (.string kl) ∧ w'.cell? ⟨w.heap.size, 1, none⟩ = some (.int .i64 (d : Int)) ∧ w'.cell? ⟨w.heap.size, 2, none⟩ = some (.int .i64 (a : Int)) ∧ w'.cell? ⟨w.heap.size, 3, none⟩ = some (.int .i64 b) ∧ w'.cell? ⟨w.heap.size, 4, none⟩ = some (.int .u32 im) ∧ w'.cell? ⟨w.heap.size, 5, none⟩ = some (.int .i64 (n : Int)) ∧ w'.cell? ⟨p, 0, none⟩ = some (.int .i64 (q : Int)) ∧ Below W.heap.size W w')
    (first | assumption | exact HKS.out _ (Below.refl _ _).drew | exact HKS.out _ ((Below.refl W.heap.size W).drew.trans hbw))
    ((go_at_call 55; refine (HW.out _).mono ?_; rintro e w4 ⟨rfl, hbw⟩))
  have HBW := Lib.hid (HA.out.trans (((Below.refl W.heap.size W).drew.trans hbw).mono HA.out.size))
  clear hbw
  go_split_ands
  go_wp2
  go_ret
  have hq := HQ.out
  rw [HWO.out]
  refine ⟨?_, HBW.out⟩
  rw [← hq]
  rfl
theorem row1 {p q : Nat} (o : OpN) (w : World) (hp : w.cell? ⟨p, 0, none⟩ = some (.int .i64 (q : Int))) : Calls Tryz.prog 91 #[opV o, .pointer (some ⟨p, 0, none⟩)] w fun e w' => e = .returned (.bool (wrO o == q)) ∧ Below w.heap.size w w' := by
  obtain ⟨k, d, a, b, im, n⟩ := o
  have := row1_at (d := d) (a := a) (n := n) (b := b) (im := im) (q := q) k w hp
  rw [← lit_text] at this
  exact this
def FIdxP (p : OpN → Bool) (w : World) (l : List OpN) (e : Ending) (w' : World) : Prop := (∃ q : Int, e = .returned (.int .i64 q) ∧ (0 ≤ q ↔ l.any p = true) ∧ -1 ≤ q ∧ q ≤ 100) ∧ Below w.heap.size w w'
def FAnyP (p : OpN → Bool) (w : World) (l : List OpN) (e : Ending) (w' : World) : Prop := e = .returned (.bool (l.any p)) ∧ Below w.heap.size w w'
set_option maxHeartbeats 8000000 in
theorem index_final {w : World} {g cap : Nat} {l : List OpN} (h : OpsAt w g l) (hl : l.length ≤ 100) :
    Calls Tryz.prog 106 #[.slice (some ⟨g, 0, none⟩) l.length cap, .func (.func 92) #[] #[]] w fun e w' => FIdxP (fun o => outK o.kind) w l e w' := by
  have HO := Lib.hid h
  have HL := Lib.hid hl
  have l1 : (l.length : Int) ≤ 100 := by omega
  clear h hl
  go_enter Tryz.func106, Tryz.ntmps106
  go_wp2_with fail
  go_loopw [4, 5, 8] (fun av bv iv wr => ∃ j : Nat, j ≤ l.length ∧ iv = .int .i64 (j : Int) ∧ Hid ((l.take j).any (fun o => outK o.kind) = false ∧ Below w.heap.size w wr)) (fun _ _ iv _ => l.length - (intOf iv).toNat)
  case atStart => exact ⟨0, Nat.zero_le _, rfl, Lib.hid ⟨by simp, Below.refl _ _⟩⟩
  case round =>
    obtain ⟨j, hj, rfl, HR⟩ := hrel
    by_cases hlt : j < l.length
    · have hjI : (j : Int) < (l.length : Int) := by omega
      obtain ⟨c0, c1, c2, c3, c4, c5⟩ := (HO.out.below HR.out.2 HO.out.lt).cells j hlt
      have HTK := Lib.hid (show l.take j ++ [l[j]] = l.take (j + 1) from (List.take_succ_eq_append_getElem hlt).symm)
      have HMM := Lib.hid (List.getElem_mem hlt)
      have HK := Lib.hid hlt
      have HFN := Lib.hid (fun wx => planFinal l[j] wx)
      generalize l[j] = o at *
      obtain ⟨k, d, a, b, im, n⟩ := o
      simp only at c0 c1 c2 c3 c4 c5
      unfold opV opA at HFN
      simp only at HFN
      generalize bsl k.text = kt at *
      clear hlt
      cases hk : outK k with
      | true =>
        rw [hk] at HFN
        have HKK := Lib.hid hk
        clear hk
        go_wp2_with (go_at_call 92; (with_reducible refine (HFN.out _).mono ?_); rintro e w3 ⟨rfl, hb3⟩)
        go_ret
        exact ⟨⟨(j : Int), rfl, ⟨fun _ => List.any_eq_true.2 ⟨_, HMM.out, HKK.out⟩, fun _ => by omega⟩, by omega, by have := HK.out; have := HL.out; omega⟩, HR.out.2.trans (hb3.mono HR.out.2.size)⟩
      | false =>
        rw [hk] at HFN
        have HKK := Lib.hid hk
        clear hk
        go_wp2_with (go_at_call 92; (with_reducible refine (HFN.out _).mono ?_); rintro e w3 ⟨rfl, hb3⟩)
        go_roundw
        case rel => exact ⟨j + 1, HK.out, by go_num, Lib.hid ⟨by rw [← HTK.out, List.any_append, HR.out.1]; simp [HKK.out], HR.out.2.trans (hb3.mono HR.out.2.size)⟩⟩
        case measure => have := HK.out; go_light; simp [intOf]; omega
    · obtain rfl : j = l.length := by omega
      have hd : decide ((l.length : Int) < (l.length : Int)) = false := decide_eq_false (by omega)
      rw [List.take_length] at HR
      go_wp2
      go_ret
      exact ⟨⟨-1, rfl, by rw [HR.out.1]; simp, by omega, by omega⟩, HR.out.2⟩
set_option maxHeartbeats 8000000 in
theorem index_row {w : World} {g cap p q : Nat} {l : List OpN} (h : OpsAt w g l) (hl : l.length ≤ 100) (hp : w.cell? ⟨p, 0, none⟩ = some (.int .i64 (q : Int))) :
    Calls Tryz.prog 106 #[.slice (some ⟨g, 0, none⟩) l.length cap, .func (.func 91) #[] #[.pointer (some ⟨p, 0, none⟩)]] w fun e w' => FIdxP (fun o => wrO o == q) w l e w' := by
  have HO := Lib.hid h
  have HL := Lib.hid hl
  have l1 : (l.length : Int) ≤ 100 := by omega
  have HP := Lib.hid hp
  clear h hl hp
  go_enter Tryz.func106, Tryz.ntmps106
  go_wp2_with fail
  go_loopw [4, 5, 8] (fun av bv iv wr => ∃ j : Nat, j ≤ l.length ∧ iv = .int .i64 (j : Int) ∧ Hid ((l.take j).any (fun o => wrO o == q) = false ∧ Below w.heap.size w wr)) (fun _ _ iv _ => l.length - (intOf iv).toNat)
  case atStart => exact ⟨0, Nat.zero_le _, rfl, Lib.hid ⟨by simp, Below.refl _ _⟩⟩
  case round =>
    obtain ⟨j, hj, rfl, HR⟩ := hrel
    by_cases hlt : j < l.length
    · have hjI : (j : Int) < (l.length : Int) := by omega
      obtain ⟨c0, c1, c2, c3, c4, c5⟩ := (HO.out.below HR.out.2 HO.out.lt).cells j hlt
      have HTK := Lib.hid (show l.take j ++ [l[j]] = l.take (j + 1) from (List.take_succ_eq_append_getElem hlt).symm)
      have HMM := Lib.hid (List.getElem_mem hlt)
      have HK := Lib.hid hlt
      have HFN := Lib.hid (row1 (q := q) l[j] wr ((HR.out.2.cell (World.block_lt_of_cell? _ _ HP.out)).trans HP.out))
      generalize l[j] = o at *
      obtain ⟨k, d, a, b, im, n⟩ := o
      simp only at c0 c1 c2 c3 c4 c5
      unfold opV opA at HFN
      simp only at HFN
      generalize bsl k.text = kt at *
      clear hlt
      cases hk : wrO ⟨k, d, a, b, im, n⟩ == q with
      | true =>
        rw [hk] at HFN
        have HKK := Lib.hid hk
        clear hk
        go_wp2_with (go_at_call 91; (with_reducible refine HFN.out.mono ?_); rintro e w3 ⟨rfl, hb3⟩)
        go_ret
        exact ⟨⟨(j : Int), rfl, ⟨fun _ => List.any_eq_true.2 ⟨_, HMM.out, HKK.out⟩, fun _ => by omega⟩, by omega, by have := HK.out; have := HL.out; omega⟩, HR.out.2.trans (hb3.mono HR.out.2.size)⟩
      | false =>
        rw [hk] at HFN
        have HKK := Lib.hid hk
        clear hk
        go_wp2_with (go_at_call 91; (with_reducible refine HFN.out.mono ?_); rintro e w3 ⟨rfl, hb3⟩)
        go_roundw
        case rel => exact ⟨j + 1, HK.out, by go_num, Lib.hid ⟨by rw [← HTK.out, List.any_append, HR.out.1]; simp [HKK.out], HR.out.2.trans (hb3.mono HR.out.2.size)⟩⟩
        case measure => have := HK.out; go_light; simp [intOf]; omega
    · obtain rfl : j = l.length := by omega
      have hd : decide ((l.length : Int) < (l.length : Int)) = false := decide_eq_false (by omega)
      rw [List.take_length] at HR
      go_wp2
      go_ret
      exact ⟨⟨-1, rfl, by rw [HR.out.1]; simp, by omega, by omega⟩, HR.out.2⟩
set_option maxHeartbeats 8000000 in
theorem contains_final {w : World} {g cap : Nat} {l : List OpN} (h : OpsAt w g l) (hl : l.length ≤ 100) :
    Calls Tryz.prog 90 #[.slice (some ⟨g, 0, none⟩) l.length cap, .func (.func 92) #[] #[]] w fun e w' => FAnyP (fun o => outK o.kind) w l e w' := by
  have HI := Lib.hid (index_final (cap := cap) h hl)
  clear h hl
  go_enter Tryz.func90, Tryz.ntmps90
  go_wp2_with fail
  refine HI.out.mono ?_
  rintro e w2 ⟨⟨q, rfl, hq, hq1, hq2⟩, hb⟩
  have HQ := Lib.hid hq
  have HD : Hid (decide (0 ≤ q) = l.any (fun o => outK o.kind)) := Lib.hid (by rw [Bool.eq_iff_iff, decide_eq_true_iff]; exact HQ.out)
  clear hq HI
  go_wp2
  go_ret
  exact ⟨by rw [← HD.out]; rfl, hb⟩
set_option maxHeartbeats 8000000 in
theorem contains_row {w : World} {g cap p q0 : Nat} {l : List OpN} (h : OpsAt w g l) (hl : l.length ≤ 100) (hp : w.cell? ⟨p, 0, none⟩ = some (.int .i64 (q0 : Int))) :
    Calls Tryz.prog 90 #[.slice (some ⟨g, 0, none⟩) l.length cap, .func (.func 91) #[] #[.pointer (some ⟨p, 0, none⟩)]] w fun e w' => FAnyP (fun o => wrO o == q0) w l e w' := by
  have HI := Lib.hid (index_row (cap := cap) h hl hp)
  clear h hl hp
  go_enter Tryz.func90, Tryz.ntmps90
  go_wp2_with fail
  refine HI.out.mono ?_
  rintro e w2 ⟨⟨q, rfl, hq, hq1, hq2⟩, hb⟩
  have HQ := Lib.hid hq
  have HD : Hid (decide (0 ≤ q) = l.any (fun o => wrO o == q0)) := Lib.hid (by rw [Bool.eq_iff_iff, decide_eq_true_iff]; exact HQ.out)
  clear hq HI
  go_wp2
  go_ret
  exact ⟨by rw [← HD.out]; rfl, hb⟩
end Go.Proofs.YtlnefmgiiogcmaaGreatDoor
namespace Go.Proofs.YtlnefmgiiogcmaaGreatDoor
open Go.RowKit
theorem OpsAt.take {w : World} {g : Nat} {l : List OpN} (h : OpsAt w g l) (i : Nat) : OpsAt w g (l.take i) where
  row j hj := by
    have h1 : j < l.length := by rw [List.length_take] at hj; omega
    rw [List.getElem_take]
    exact h.row j h1
  lt := h.lt
theorem once_any {r : List OpN} (h : r.Pairwise (fun x y => wrO x = 0 ∨ wrO x ≠ wrO y)) {i : Nat} (hi : i < r.length) (h0 : wrO r[i] ≠ 0) : (r.take i).any (fun o => wrO o == wrO r[i]) = false := by
  rw [List.any_eq_false]
  intro x hx e
  have e1 : wrO x = wrO r[i] := by simpa using e
  obtain ⟨j, hj, rfl⟩ := List.mem_iff_getElem.1 hx
  rw [List.length_take] at hj
  rw [List.getElem_take] at e1
  rcases List.pairwise_iff_getElem.1 h j i (by omega) hi (by omega) with h2 | h2
  · exact h0 (by rw [← e1]; exact h2)
  · exact h2 e1
structure RowG (many : Nat) (last : Bool) (r : List OpN) : Prop where
  pos : 0 < r.length
  four : r.length ≤ 4
  good : ∀ o ∈ r, o.at' < many ∧ opG o
  room : ∀ c, countC c r ≤ roomC c
  once : r.Pairwise (fun x y => wrO x = 0 ∨ wrO x ≠ wrO y)
  last : r.any (fun o => outK o.kind) = last
set_option maxHeartbeats 16000000 in
set_option maxRecDepth 100000 in
theorem prow_at {w : World} {g cap many : Nat} {last : Bool} {r : List OpN} {mx : Int} (h : OpsAt w g r) (hcap : r.length ≤ cap) (hr : RowG many last r) (hm : w.cell? ⟨8, 0, none⟩ = some (.int .i64 mx)) :
    Calls Tryz.prog 61 #[.slice (some ⟨g, 0, none⟩) r.length cap, .int .i64 (many : Int), .bool last] w fun e w' => e = .returned .nilIface ∧ Below w.heap.size w w' := by
  have HO := Lib.hid h
  have HR := Lib.hid hr
  have HM := Lib.hid hm
  have HCAP := Lib.hid hcap
  have l0 : (0 : Int) < (r.length : Int) := by have := hr.pos; omega
  have l1 : (r.length : Int) ≤ 4 := by have := hr.four; omega
  have l2 : ((r.length : Int) == 0) = false := by simp only [beq_eq_false_iff_ne, ne_eq]; omega
  have l3 : ¬ (4 : Int) < (r.length : Int) := by omega
  have hmf : ∀ (fn : Fn) (first cap : Array Value) (w : World), (Instr.makeFunc fn first cap).run Tryz.prog w = .ok (.func fn first cap) w := fun _ _ _ _ => rfl
  clear h hr hm hcap
  go_enter Tryz.func61, Tryz.ntmps61
  go_wp2_with fail
  go_loopw [8, 9, 26] (fun bv ev iv wr => ∃ j : Nat, j ≤ r.length ∧ iv = .int .i64 (j : Int) ∧ Hid (Below w.heap.size w wr)) (fun _ _ iv _ => r.length - (intOf iv).toNat)
  case atStart => exact ⟨0, Nat.zero_le _, rfl, Lib.hid (Below.refl _ _)⟩
  case round =>
    obtain ⟨j, hj, rfl, HB⟩ := hrel
    by_cases hlt : j < r.length
    · have hjI : (j : Int) < (r.length : Int) := by omega
      obtain ⟨c0, c1, c2, c3, c4, c5⟩ := (HO.out.below HB.out HO.out.lt).cells j hlt
      have HK := Lib.hid hlt
      have HG := Lib.hid (HR.out.good _ (List.getElem_mem hlt))
      have hmw := (HB.out.cell (p := ⟨8, 0, none⟩) (World.block_lt_of_cell? _ _ HM.out)).trans HM.out
      generalize r[j] = o at *
      clear hlt
      obtain ⟨k, d, a, b, im, n⟩ := o
      simp only at c0 c1 c2 c3 c4 c5
      rw [lit_text] at c0
      have hAX := (Below.refl wr.heap.size wr).alloc (Nat.le_refl _) (.cells #[.string k.lit, .int .i64 (d : Int), .int .i64 (a : Int), .int .i64 b, .int .u32 im, .int .i64 (n : Int)] 61)
      have HCK := Lib.hid (irCheckOp_at (mx := mx) k HG.out.2 (wr.alloc (.cells #[.string k.lit, .int .i64 (d : Int), .int .i64 (a : Int), .int .i64 b, .int .u32 im, .int .i64 (n : Int)] 61)) HG.out.1 ((hAX.cell (p := ⟨8, 0, none⟩) (World.block_lt_of_cell? _ _ hmw)).trans hmw))
      have HBX := Lib.hid (HB.out.trans (hAX.mono HB.out.size))
      clear hAX hmw HG
      go_wp2_with fail
      generalize wr.alloc _ = X at *
      refine HCK.out.mono ?_
      rintro e w3 ⟨rfl, hb3⟩
      have HB3 := Lib.hid (HBX.out.trans (hb3.mono HBX.out.size))
      clear hb3 HCK HBX
      go_wp2_with fail
      go_roundw
      case rel => exact ⟨j + 1, HK.out, by go_num, HB3⟩
      case measure => have := HK.out; go_light; simp [intOf]; omega
    · obtain rfl : j = r.length := by omega
      have hd : decide ((r.length : Int) < (r.length : Int)) = false := decide_eq_false (by omega)
      have HCN := Lib.hid (planCounts (cap := cap) (HO.out.below HB.out HO.out.lt) (by have := HR.out.four; omega))
      go_wp2_with fail
      refine HCN.out.mono ?_
      rintro e w2 ⟨rfl, hb2⟩
      have HB2 := Lib.hid (HB.out.trans (hb2.mono HB.out.size))
      have HC0 := Lib.hid (show countC 0 r ≤ 3 from HR.out.room 0)
      have HC1 := Lib.hid (show countC 1 r ≤ 1 from HR.out.room 1)
      have HC2 := Lib.hid (show countC 2 r ≤ 1 from HR.out.room 2)
      have hix0 := index0 (.int .i64 (countC 0 r : Int)) (.int .i64 (countC 1 r : Int)) (.int .i64 (countC 2 r : Int))
      have hix1 := index1 (.int .i64 (countC 0 r : Int)) (.int .i64 (countC 1 r : Int)) (.int .i64 (countC 2 r : Int))
      have hix2 := index2 (.int .i64 (countC 0 r : Int)) (.int .i64 (countC 1 r : Int)) (.int .i64 (countC 2 r : Int))
      generalize countC 0 r = n0 at *
      generalize countC 1 r = n1 at *
      generalize countC 2 r = n2 at *
      clear hb2 HCN HB hd
      go_wp2_with fail
      go_loopw [10, 11, 39] (fun kv nv iv wr => ∃ j : Nat, j ≤ 3 ∧ iv = .int .i64 (j : Int) ∧ Hid (Below w.heap.size w wr)) (fun _ _ iv _ => 3 - (intOf iv).toNat)
      case atStart => exact ⟨0, Nat.zero_le _, rfl, HB2⟩
      case round =>
        obtain ⟨j, hj, rfl, HB⟩ := hrel
        by_cases hlt : j < 3
        · have hjI : (j : Int) < 3 := by omega
          have HK := Lib.hid hlt
          have hq0 : (n0 : Int) ≤ 3 := by have := HC0.out; omega
          have hq1 : (n1 : Int) ≤ 1 := by have := HC1.out; omega
          have hq2 : (n2 : Int) ≤ 1 := by have := HC2.out; omega
          have hj3 : j = 0 ∨ j = 1 ∨ j = 2 := by omega
          clear hlt
          rcases hj3 with rfl | rfl | rfl
          · have HRM := Lib.hid (show Calls Tryz.prog 84 #[.int .i64 (0 : Int)] wr fun e w' => e = .returned (.int .i64 (3 : Int)) ∧ wr = w' from planRoom 0 (Or.inl rfl) wr)
            go_wp2_with fail
            refine HRM.out.mono ?_
            rintro e w5 ⟨rfl, rfl⟩
            go_wp2_with fail
            go_roundw
            case rel => exact ⟨1, by omega, rfl, HB⟩
            case measure => go_light; simp [intOf]
          · have HRM := Lib.hid (show Calls Tryz.prog 84 #[.int .i64 (1 : Int)] wr fun e w' => e = .returned (.int .i64 (1 : Int)) ∧ wr = w' from planRoom 1 (Or.inr (Or.inl rfl)) wr)
            go_wp2_with fail
            refine HRM.out.mono ?_
            rintro e w5 ⟨rfl, rfl⟩
            go_wp2_with fail
            go_roundw
            case rel => exact ⟨2, by omega, rfl, HB⟩
            case measure => go_light; simp [intOf]
          · have HRM := Lib.hid (show Calls Tryz.prog 84 #[.int .i64 (2 : Int)] wr fun e w' => e = .returned (.int .i64 (1 : Int)) ∧ wr = w' from planRoom 2 (Or.inr (Or.inr rfl)) wr)
            go_wp2_with fail
            refine HRM.out.mono ?_
            rintro e w5 ⟨rfl, rfl⟩
            go_wp2_with fail
            go_roundw
            case rel => exact ⟨3, by omega, rfl, HB⟩
            case measure => go_light; simp [intOf]
        · obtain rfl : j = 3 := by omega
          clear hix0 hix1 hix2 HC0 HC1 HC2
          go_wp2_with fail
          go_loopw [12, 13, 14, 51] (fun xv bv cv iv wr => ∃ j : Nat, j ≤ r.length ∧ iv = .int .i64 (j : Int) ∧ Hid (Below w.heap.size w wr)) (fun _ _ _ iv _ => r.length - (intOf iv).toNat)
          case atStart => exact ⟨0, Nat.zero_le _, rfl, HB⟩
          case round =>
            obtain ⟨j, hj, rfl, HB⟩ := hrel
            by_cases hlt : j < r.length
            · have hjI : (j : Int) < (r.length : Int) := by omega
              have hjc : j < r.length := hlt
              obtain ⟨c0, c1, c2, c3, c4, c5⟩ := (HO.out.below HB.out HO.out.lt).cells j hlt
              have HK := Lib.hid hlt
              have HWR := Lib.hid (fun wx => optWrites_any r[j] wx)
              have HON : Hid (wrO r[j] ≠ 0 → (r.take j).any (fun o => wrO o == wrO r[j]) = false) := Lib.hid (once_any HR.out.once hlt)
              have HTL : Hid ((r.take j).length = j) := Lib.hid (by rw [List.length_take]; omega)
              generalize r[j] = o at *
              clear hlt
              obtain ⟨k, d, a, b, im, n⟩ := o
              simp only at c0 c1 c2 c3 c4 c5
              unfold opV opA at HWR
              simp only at HWR
              generalize wrO ⟨k, d, a, b, im, n⟩ = wo at *
              generalize bsl k.text = kt at *
              have hAX := (Below.refl wr.heap.size wr).alloc (Nat.le_refl _) (.cells #[.string kt, .int .i64 (d : Int), .int .i64 (a : Int), .int .i64 b, .int .u32 im, .int .i64 (n : Int)] 61)
              have HBX := Lib.hid (HB.out.trans (hAX.mono HB.out.size))
              clear hAX
              go_wp2_with fail
              generalize wr.alloc _ = X at *
              refine (HWR.out _).mono ?_
              rintro e w3 ⟨rfl, hb3⟩
              have HB3 := Lib.hid (HBX.out.trans (hb3.mono HBX.out.size))
              clear hb3 HBX c0 c1 c2 c3 c4 c5
              have hAC := (Below.refl w3.heap.size w3).alloc (Nat.le_refl _) (.cells #[.int .i64 (wo : Int)] 3)
              have HB4 := Lib.hid (HB3.out.trans (hAC.mono HB3.out.size))
              have hcv : (w3.alloc (.cells #[.int .i64 (wo : Int)] 3)).cell? ⟨w3.heap.size, 0, none⟩ = some (.int .i64 (wo : Int)) := by rw [World.cell?_alloc_at _ _ _ _ rfl]; rfl
              have HCF := Lib.hid (contains_row (cap := cap) ((HO.out.below HB4.out HO.out.lt).take j) (by rw [HTL.out]; have := HR.out.four; omega) hcv)
              rw [HTL.out] at HCF
              clear hAC
              by_cases h0 : wo = 0
              · have hne : ((wo : Int) != 0) = false := by simp [h0]
                subst h0
                go_wp2_with fail
                go_roundw
                case rel => exact ⟨_, _, _, _, _, _, _, _, _, _, _, _, _, _, _, _, _, _, _, _, _, _, ⟨j + 1, HK.out, by go_num, HB4⟩, rfl⟩
                case measure => have := HK.out; go_light; simp [intOf]; omega
              · have hne : ((wo : Int) != 0) = true := by simpa using h0
                have HAN := Lib.hid (HON.out h0)
                have hjcap : (j : Int) ≤ (cap : Int) := by have := HCAP.out; omega
                have hj0 : (0 : Int) ≤ (j : Int) := by omega
                clear h0
                go_wp2_with fail
                refine HCF.out.mono ?_
                rintro e w5 ⟨rfl, hb5⟩
                have HB5 := Lib.hid (HB4.out.trans (hb5.mono HB4.out.size))
                rw [HAN.out]
                clear hb5 HCF HB4 HB3
                go_wp2_with fail
                go_roundw
                case rel => exact ⟨_, _, _, _, _, _, _, _, _, _, _, _, _, _, _, _, _, _, _, _, _, _, ⟨j + 1, HK.out, by go_num, HB5⟩, rfl⟩
                case measure => have := HK.out; go_light; simp [intOf]; omega
            · obtain rfl : j = r.length := by omega
              have hd : decide ((r.length : Int) < (r.length : Int)) = false := decide_eq_false (by omega)
              have HCN := Lib.hid (contains_final (cap := cap) (HO.out.below HB.out HO.out.lt) (by have := HR.out.four; omega))
              have hla := HR.out.last
              go_wp2_with fail
              refine HCN.out.mono ?_
              rintro e w2 ⟨rfl, hb2⟩
              have HB2 := Lib.hid (HB.out.trans (hb2.mono HB.out.size))
              rw [hla]
              clear hb2 HCN HB hd hla
              cases last <;>
                go_wp2 <;>
                go_ret <;>
                exact ⟨rfl, HB2.out⟩
end Go.Proofs.YtlnefmgiiogcmaaGreatDoor
