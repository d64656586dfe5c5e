/- The walk of changelinglaw1.AsmLabels: it answers true. Conditions: as each theorem states. -/
import Derived.Test.YtnppegldebocmaaGreatDoorLabM
import Derived.Test.YtnppegldebocmaaGreatDoorAsmN
import Derived.Test.YtnppegldebocmaaGreatDoorAlike
namespace Go.Proofs.YtnppegldebocmaaGreatDoor
open Go.RowKit
set_option linter.unusedVariables false
theorem two_news (w : World) (a b : Value) (t : TypeId) : ∀ j v, [a, b][j]? = some v → (w.alloc (.cells #[a, b] t)).cell? ((⟨w.heap.size, 0, none⟩ : Addr).add j) = some v := by
  intro j u hj
  match j, hj with
  | 0, hj => simp at hj; subst hj; simp [Addr.add]
  | 1, hj => simp at hj; subst hj; simp [Addr.add]
  | j + 2, hj => simp at hj
abbrev strC2 (s : List UInt8) : Value := .string (bsl s)
set_option maxHeartbeats 4000000 in
set_option maxRecDepth 1000000 in
theorem labels_main (m f t : Nat) (hm : m ≤ 60) (hf : f < m) (ht : t ≤ m) (base : Int) (hb0 : 0 ≤ base) (hb1 : base ≤ 1048576) (hb4 : base % 4 = 0)
    (ad : Nat → Addr) (mz : Int) (w : World) (hP : PW w ad mz) :
    Calls Tryz.prog 5 #[.int .i64 (m : Int), .int .i64 (f : Int), .int .i64 (t : Int), .int .u32 base] w fun e w' => e = .returned (.bool true) ∧ Below w.heap.size w w' := by
  have HP := Lib.hid hP
  have hbt : base.tmod 4 = 0 := by rw [Int.tmod_eq_emod_of_nonneg hb0]; exact hb4
  have HT := Lib.hid (texted_ok ad w ⟨hP.se.c1, hP.se.c3⟩ hP.pow)
  obtain ⟨iS, hS1, hS2, hS3, hS4⟩ := info_parts Tryz.infoS
  clear hP
  go_enter Tryz.func5, Tryz.ntmps5
  go_wp2_with fail
  refine HT.out.mono ?_
  rintro e w1 ⟨rfl, hb1'⟩
  have HB1 := Lib.hid hb1'
  clear hb1' HT
  go_wp2_with fail
  have e1 : decide ((m : Int) < 1) = false := decide_eq_false (by go_light; omega)
  have e2 : decide ((60 : Int) < (m : Int)) = false := decide_eq_false (by go_light; omega)
  have e3 : decide ((f : Int) < 0) = false := decide_eq_false (by go_light; omega)
  have e4 : decide ((t : Int) < 0) = false := decide_eq_false (by go_light; omega)
  have e5 : decide (m < t) = false := decide_eq_false (by go_light; omega)
  have e6 : decide ((1048576 : Int) < base) = false := decide_eq_false (by go_light; omega)
  simp only [e1, e2, e3, e4, e5, e6, Bool.or_self]
  clear hbt e1 e2 e3 e4 e5 e6
  go_loopw [10, 11] (fun lv kv wr => ∃ j : Nat, j ≤ m ∧ kv = .int .i64 (j : Int) ∧ Hid (wr.ownsRow w.heap.size 9 1 lv (linesI f t j).length ((linesI f t j).map strC2)) ∧ Hid (Below w.heap.size w wr)) (fun _ kv _ => m + 1 - (intOf kv).toNat)
  case atStart => exact ⟨0, Nat.zero_le _, rfl, World.ownsRow_nil _ _ _ _, HB1⟩
  case round =>
    obtain ⟨j, hj, rfl, HLV, HBJ⟩ := hrel
    have hmany := linesI_many f t j
    have hln : (linesI f t j).length ≤ 62 := by split at hmany <;> split at hmany <;> (go_light; omega)
    have HNX : Hid (linesI f t (j + 1) = (linesI f t j ++ (if j = t then [thereL] else [])) ++ (if j = f then [bneL, jL] else [adduL])) := by show _ = _; simp [linesI, lineAt]
    have HLJ : Hid (j = m → linesI f t m ++ (if m = t then [thereL] else []) = linesI f t j ++ (if j = t then [thereL] else [])) := by intro e; rw [e]
    have hszb := HBJ.out.size
    have hjm : (j : Int) ≤ (m : Int) := by go_light; omega
    generalize linesI f t j = LL at *
    have hln2 := hln
    clear hmany
    go_upto_if 65 with fail
    go_cut [10] from 58 to 68 (fun s8 wx => Hid (wx.ownsRow w.heap.size 9 1 s8 (LL ++ (if j = t then [thereL] else [])).length ((LL ++ (if j = t then [thereL] else [])).map strC2)) ∧ Hid (Below w.heap.size w wx))
    case first =>
      by_cases hja : j = t
      · have hja' : ((j : Int) == (t : Int)) = true := beq_iff_eq.2 (by go_light; omega)
        have HJA := Lib.hid hja
        clear hja
        go_wp2_with (at_builtin; refine wpList_append_lies _ rfl (.tmp 66) (.tmp 67) 40 rfl w.heap.size 9 iS (.string ByteArray.empty) 1 16 Tryz.underlying40 hS1 hS2 hS3 hS4 rfl (by decide) _ _ _ rfl (HLV.out.alloc _) _ 1 1 [_] rfl rfl (cell_one_new _ _ _) (fun x hx => by simp at hx; subst hx; rfl) (by decide) (by unfold maxLen; omega) (by omega) (by simp; omega) _ rfl ?_)
        intro g0 cap0 w4 hown4 hgrow4 hat4 hlt4
        have HO4 := Lib.hid hown4
        have HB4 := Lib.hid (HBJ.out.grown ((World.grownBy_alloc wr _ _).trans hgrow4) hszb (fun k hk => (HLV.out.lt k hk).1))
        clear hown4 hgrow4 hat4 hlt4
        go_wp2_with fail
        go_meet
        refine ⟨?_, HB4.out⟩
        rw [if_pos HJA.out]
        show World.ownsRow _ _ _ _ _ _ _
        rw [List.length_append, List.map_append]
        exact HO4.out
      · have hja' : ((j : Int) == (t : Int)) = false := beq_eq_false_iff_ne.2 (by go_light; omega)
        have HJA := Lib.hid hja
        clear hja
        go_wp2_with fail
        go_meet
        refine ⟨?_, HBJ⟩
        rw [if_neg HJA.out, List.append_nil]
        exact HLV
    case rest =>
      obtain ⟨HLV2, HB2⟩ := hcut
      rename World => wk
      have hl2 : (LL ++ (if j = t then [thereL] else [])).length ≤ 63 := by rw [List.length_append]; split <;> simp <;> (go_light; omega)
      generalize (LL ++ (if j = t then [thereL] else [])) = L2 at *
      clear HLV HBJ hln hln2 hszb
      have hszb := HB2.out.size
      by_cases hjm2 : j = m
      · have hm' : ((j : Int) == (m : Int)) = true := beq_iff_eq.2 (by go_light; omega)
        have HLM := Lib.hid (HLJ.out hjm2)
        clear HLJ HNX
        obtain ⟨q1, q2, hgl⟩ := good_linesJ base f t m hf ht
        rw [HLM.out] at hgl
        obtain ⟨r, hset, hrl, hrf, hrj⟩ := settled base f t m q1 q2 hb0 hb1 hf hm ht
        have hshort : ∀ s ∈ L2, s.length ≤ 100 := by
          rw [← HLM.out]
          intro s hs
          rcases List.mem_append.1 hs with hs | hs
          · exact linesI_short f t m s hs
          · split at hs
            · rcases List.mem_singleton.1 hs with rfl; decide
            · cases hs
        have HAS := Lib.hid (assemble_waits L2 (by go_light; omega) hshort base hb0 (by go_light; omega) hb4 _ hgl r hset ad mz wk (HP.out.below HB2.out) _ _ HLV2.out)
        have HR := Lib.hid (And.intro hrl (And.intro hrf hrj))
        clear hgl hset hshort hrl hrf hrj HLM hjm2
        go_wp2_with fail
        refine HAS.out.mono ?_
        rintro e w2 ⟨wv, rfl, hwo, hb2⟩
        have HB3 := Lib.hid (HB2.out.trans (hb2.mono HB2.out.size))
        obtain ⟨g, cap, rfl⟩ := Joins.ownsRow_form hwo (by have := HR.out.1; go_light; omega)
        have hcell := hwo.cells rfl
        have hcA := hcell f (.int .u32 (wordA f t)) (by rw [List.getElem?_map, HR.out.2.1]; rfl)
        have hcJ := hcell (f + 1) (.int .u32 (wordJ base f t)) (by rw [List.getElem?_map, HR.out.2.2]; rfl)
        rw [addr_add] at hcA hcJ
        obtain ⟨⟨a0, a1⟩, HDA⟩ := wordA_ok f t
        obtain ⟨⟨j0, j1⟩, HDJ⟩ := wordJ_ok base f t hb0 hb1 (by go_light; omega)
        have HDA := Lib.hid HDA
        have HDJ := Lib.hid HDJ
        rw [HR.out.1]
        generalize wordA f t = zA at *
        generalize wordJ base f t = zJ at *
        clear hwo hcell hb2 HAS HLV2 hszb hl2
        have hfl : (f : Int) < (m : Int) := by go_light; omega
        by_cases hft : f < t
        · have hft' : (f : Int) < (t : Int) := by go_light; omega
          have hpl : (placeN f t : Int) = (t : Int) + 1 := by unfold placeN; rw [if_pos hft]; go_num
          rw [hpl] at HDA HDJ
          clear hpl
          go_wp2_with fail
          refine (decode_any zA a0 a1 _).mono ?_
          rintro e w3 ⟨rfl, hb3⟩
          rw [HDA.out]
          have HB4 := Lib.hid (HB3.out.trans (hb3.mono HB3.out.size))
          have hal3 := (Below.refl w3.heap.size w3).alloc (Nat.le_refl _) (.cells #[.int .i64 32, .int .i64 3, .int .i64 0, .int .i64 0, .int .u32 ((((t : Int) + 1) - (f : Int) - 1) % 65536)] 24)
          have HF3 := Lib.hid (Five.new w3 (.int .i64 32) (.int .i64 3) (.int .i64 0) (.int .i64 0) (.int .u32 ((((t : Int) + 1) - (f : Int) - 1) % 65536)) 24)
          have hcJ3 : (w3.alloc (.cells #[.int .i64 32, .int .i64 3, .int .i64 0, .int .i64 0, .int .u32 ((((t : Int) + 1) - (f : Int) - 1) % 65536)] 24)).cell? ⟨g, f + 1, none⟩ = some (.int .u32 zJ) := by
            have h3 := (hb3.cell (World.block_lt_of_cell? _ _ hcJ)).trans hcJ
            exact (hal3.cell (World.block_lt_of_cell? _ _ h3)).trans h3
          have HB4a := Lib.hid (HB4.out.trans (hal3.mono HB4.out.size))
          clear hb3 hcA hcJ HB3 hal3 HB4
          go_wp2_with fail
          refine (decode_any zJ j0 j1 _).mono ?_
          rintro e w4 ⟨rfl, hb4⟩
          rw [HDJ.out]
          have HB5 := Lib.hid (HB4a.out.trans (hb4.mono HB4a.out.size))
          have HF4 := Lib.hid (Five.below HF3.out hb4 (Five.lt HF3.out))
          have hal4 := (Below.refl w4.heap.size w4).alloc (Nat.le_refl _) (.cells #[.int .i64 29, .int .i64 0, .int .i64 0, .int .i64 0, .int .u32 ((base + 4 * ((t : Int) + 1)) / 4)] 24)
          have HFJ := Lib.hid (Five.new w4 (.int .i64 29) (.int .i64 0) (.int .i64 0) (.int .i64 0) (.int .u32 ((base + 4 * ((t : Int) + 1)) / 4)) 24)
          have HF5 := Lib.hid (Five.below HF4.out hal4 (Five.lt HF4.out))
          have HB6 := Lib.hid (HB5.out.trans (hal4.mono HB5.out.size))
          obtain ⟨x0, x1, x2, x3, x4⟩ := Five.cells HF5.out
          obtain ⟨y0, y1, y2, y3, y4⟩ := Five.cells HFJ.out
          clear hb4 hcJ3 hal4
          go_wp2_with fail
          refine (wide_of (((t : Int) + 1) - (f : Int) - 1) (by go_light; omega) (by go_light; omega) _).mono ?_
          rintro e w5 ⟨rfl, rfl⟩
          go_wp2_with fail
          refine (shift_of (((t : Int) + 1) - (f : Int) - 1) _).mono ?_
          rintro e w5 ⟨rfl, rfl⟩
          go_wp2_with fail
          refine (add_any _ _ _).mono ?_
          rintro e w5 ⟨⟨cc, rfl⟩, rfl⟩
          rw [show (base + 4 * (f : Int) + 4 + 4 * (((t : Int) + 1) - (f : Int) - 1) % 4294967296) % 4294967296 = base + 4 * ((t : Int) + 1) from by go_light; omega]
          go_wp2_with fail
          have hq : (4 * ((base + 4 * ((t : Int) + 1)) / 4) == base + 4 * ((t : Int) + 1)) = true := beq_iff_eq.2 (by go_light; omega)
          rw [hq]
          go_ret
          exact ⟨rfl, HB6.out⟩
        · have hft' : ¬ (f : Int) < (t : Int) := by go_light; omega
          have hpl : (placeN f t : Int) = (t : Int) := by unfold placeN; rw [if_neg hft]; rfl
          rw [hpl] at HDA HDJ
          clear hpl
          go_wp2_with fail
          refine (decode_any zA a0 a1 _).mono ?_
          rintro e w3 ⟨rfl, hb3⟩
          rw [HDA.out]
          have HB4 := Lib.hid (HB3.out.trans (hb3.mono HB3.out.size))
          have hal3 := (Below.refl w3.heap.size w3).alloc (Nat.le_refl _) (.cells #[.int .i64 32, .int .i64 3, .int .i64 0, .int .i64 0, .int .u32 (((t : Int) - (f : Int) - 1) % 65536)] 24)
          have HF3 := Lib.hid (Five.new w3 (.int .i64 32) (.int .i64 3) (.int .i64 0) (.int .i64 0) (.int .u32 (((t : Int) - (f : Int) - 1) % 65536)) 24)
          have hcJ3 : (w3.alloc (.cells #[.int .i64 32, .int .i64 3, .int .i64 0, .int .i64 0, .int .u32 (((t : Int) - (f : Int) - 1) % 65536)] 24)).cell? ⟨g, f + 1, none⟩ = some (.int .u32 zJ) := by
            have h3 := (hb3.cell (World.block_lt_of_cell? _ _ hcJ)).trans hcJ
            exact (hal3.cell (World.block_lt_of_cell? _ _ h3)).trans h3
          have HB4a := Lib.hid (HB4.out.trans (hal3.mono HB4.out.size))
          clear hb3 hcA hcJ HB3 hal3 HB4
          go_wp2_with fail
          refine (decode_any zJ j0 j1 _).mono ?_
          rintro e w4 ⟨rfl, hb4⟩
          rw [HDJ.out]
          have HB5 := Lib.hid (HB4a.out.trans (hb4.mono HB4a.out.size))
          have HF4 := Lib.hid (Five.below HF3.out hb4 (Five.lt HF3.out))
          have hal4 := (Below.refl w4.heap.size w4).alloc (Nat.le_refl _) (.cells #[.int .i64 29, .int .i64 0, .int .i64 0, .int .i64 0, .int .u32 ((base + 4 * (t : Int)) / 4)] 24)
          have HFJ := Lib.hid (Five.new w4 (.int .i64 29) (.int .i64 0) (.int .i64 0) (.int .i64 0) (.int .u32 ((base + 4 * (t : Int)) / 4)) 24)
          have HF5 := Lib.hid (Five.below HF4.out hal4 (Five.lt HF4.out))
          have HB6 := Lib.hid (HB5.out.trans (hal4.mono HB5.out.size))
          obtain ⟨x0, x1, x2, x3, x4⟩ := Five.cells HF5.out
          obtain ⟨y0, y1, y2, y3, y4⟩ := Five.cells HFJ.out
          clear hb4 hcJ3 hal4
          go_wp2_with fail
          refine (wide_of ((t : Int) - (f : Int) - 1) (by go_light; omega) (by go_light; omega) _).mono ?_
          rintro e w5 ⟨rfl, rfl⟩
          go_wp2_with fail
          refine (shift_of ((t : Int) - (f : Int) - 1) _).mono ?_
          rintro e w5 ⟨rfl, rfl⟩
          go_wp2_with fail
          refine (add_any _ _ _).mono ?_
          rintro e w5 ⟨⟨cc, rfl⟩, rfl⟩
          rw [show (base + 4 * (f : Int) + 4 + 4 * ((t : Int) - (f : Int) - 1) % 4294967296) % 4294967296 = base + 4 * (t : Int) from by go_light; omega]
          go_wp2_with fail
          have hq : (4 * ((base + 4 * (t : Int)) / 4) == base + 4 * (t : Int)) = true := beq_iff_eq.2 (by go_light; omega)
          rw [hq]
          go_ret
          exact ⟨rfl, HB6.out⟩
      · have hm' : ((j : Int) == (m : Int)) = false := beq_eq_false_iff_ne.2 (by go_light; omega)
        have hjlt : j < m := by go_light; omega
        clear HLJ hjm2
        by_cases hjf : j = f
        · have hf' : ((j : Int) == (f : Int)) = true := beq_iff_eq.2 (by go_light; omega)
          rw [if_pos hjf] at HNX
          clear hjf
          go_wp2_with (at_builtin; refine wpList_append_lies _ rfl (.tmp 75) (.tmp 76) 40 rfl w.heap.size 9 iS (.string ByteArray.empty) 1 16 Tryz.underlying40 hS1 hS2 hS3 hS4 rfl (by decide) _ _ _ rfl (HLV2.out.alloc _) _ 2 2 [_, _] rfl rfl (two_news _ _ _ _) (fun x hx => by simp at hx; rcases hx with rfl | rfl <;> rfl) (by decide) (by unfold maxLen; omega) (by omega) (by simp; omega) _ rfl ?_)
          intro g0 cap0 w6 hown6 hgrow6 hat6 hlt6
          have HO6 : Hid (w6.ownsRow w.heap.size 9 1 (.slice (some ⟨g0, 0, none⟩) (L2.length + 2) cap0) (linesI f t (j + 1)).length ((linesI f t (j + 1)).map strC2)) := by
            show World.ownsRow _ _ _ _ _ _ _
            rw [HNX.out, List.length_append, List.map_append]
            exact hown6
          have HB6 := Lib.hid (HB2.out.grown ((World.grownBy_alloc wk _ _).trans hgrow6) hszb (fun k hk => (HLV2.out.lt k hk).1))
          clear hown6 hgrow6 hat6 hlt6
          go_wp2_with fail
          go_roundw
          case rel => exact ⟨j + 1, hjlt, by go_num, HO6, HB6⟩
          case measure => go_light; simp [intOf]; omega
        · have hf' : ((j : Int) == (f : Int)) = false := beq_eq_false_iff_ne.2 (by go_light; omega)
          rw [if_neg hjf] at HNX
          clear hjf
          go_wp2_with (at_builtin; refine wpList_append_lies _ rfl (.tmp 78) (.tmp 79) 40 rfl w.heap.size 9 iS (.string ByteArray.empty) 1 16 Tryz.underlying40 hS1 hS2 hS3 hS4 rfl (by decide) _ _ _ rfl (HLV2.out.alloc _) _ 1 1 [_] rfl rfl (cell_one_new _ _ _) (fun x hx => by simp at hx; subst hx; rfl) (by decide) (by unfold maxLen; omega) (by omega) (by simp; omega) _ rfl ?_)
          intro g0 cap0 w6 hown6 hgrow6 hat6 hlt6
          have HO6 : Hid (w6.ownsRow w.heap.size 9 1 (.slice (some ⟨g0, 0, none⟩) (L2.length + 1) cap0) (linesI f t (j + 1)).length ((linesI f t (j + 1)).map strC2)) := by
            show World.ownsRow _ _ _ _ _ _ _
            rw [HNX.out, List.length_append, List.map_append]
            exact hown6
          have HB6 := Lib.hid (HB2.out.grown ((World.grownBy_alloc wk _ _).trans hgrow6) hszb (fun k hk => (HLV2.out.lt k hk).1))
          clear hown6 hgrow6 hat6 hlt6
          go_wp2_with fail
          go_roundw
          case rel => exact ⟨j + 1, hjlt, by go_num, HO6, HB6⟩
          case measure => go_light; simp [intOf]; omega
set_option maxHeartbeats 2000000 in
theorem labels_early (m f t base : Int) (hc : m < 1 ∨ (¬ m < 1 ∧ 60 < m) ∨ (¬ m < 1 ∧ ¬ 60 < m ∧ f < 0) ∨ (¬ m < 1 ∧ ¬ 60 < m ∧ ¬ f < 0 ∧ m ≤ f) ∨ (¬ m < 1 ∧ ¬ 60 < m ∧ ¬ f < 0 ∧ ¬ m ≤ f ∧ t < 0) ∨ (¬ m < 1 ∧ ¬ 60 < m ∧ ¬ f < 0 ∧ ¬ m ≤ f ∧ ¬ t < 0 ∧ m < t) ∨ (¬ m < 1 ∧ ¬ 60 < m ∧ ¬ f < 0 ∧ ¬ m ≤ f ∧ ¬ t < 0 ∧ ¬ m < t ∧ (base.tmod 4 != 0) = true) ∨ (¬ m < 1 ∧ ¬ 60 < m ∧ ¬ f < 0 ∧ ¬ m ≤ f ∧ ¬ t < 0 ∧ ¬ m < t ∧ base.tmod 4 = 0 ∧ 1048576 < base))
    (ad : Nat → Addr) (mz : Int) (w : World) (hP : PW w ad mz) :
    Calls Tryz.prog 5 #[.int .i64 m, .int .i64 f, .int .i64 t, .int .u32 base] w fun e w' => e = .returned (.bool true) ∧ Below w.heap.size w w' := by
  have HT := Lib.hid (texted_ok ad w ⟨hP.se.c1, hP.se.c3⟩ hP.pow)
  clear hP
  go_enter Tryz.func5, Tryz.ntmps5
  go_wp2_with fail
  refine HT.out.mono ?_
  rintro e w1 ⟨rfl, hb1⟩
  have HB1 := Lib.hid hb1
  clear hb1 HT
  rcases hc with h1 | ⟨h1, h2⟩ | ⟨h1, h2, h3⟩ | ⟨h1, h2, h3, h4⟩ | ⟨h1, h2, h3, h4, h5⟩ | ⟨h1, h2, h3, h4, h5, h6⟩ | ⟨h1, h2, h3, h4, h5, h6, h7⟩ | ⟨h1, h2, h3, h4, h5, h6, h7, h8⟩
  all_goals
    go_wp2
    go_ret
    exact ⟨rfl, HB1.out⟩
theorem labels_any (m f t base : Int) (hb0 : 0 ≤ base) (ad : Nat → Addr) (mz : Int) (w : World) (hP : PW w ad mz) :
    Calls Tryz.prog 5 #[.int .i64 m, .int .i64 f, .int .i64 t, .int .u32 base] w fun e w' => e = .returned (.bool true) ∧ Below w.heap.size w w' := by
  by_cases h1 : m < 1
  · exact labels_early m f t base (Or.inl h1) ad mz w hP
  by_cases h2 : 60 < m
  · exact labels_early m f t base (Or.inr (Or.inl ⟨h1, h2⟩)) ad mz w hP
  by_cases h3 : f < 0
  · exact labels_early m f t base (Or.inr (Or.inr (Or.inl ⟨h1, h2, h3⟩))) ad mz w hP
  by_cases h4 : m ≤ f
  · exact labels_early m f t base (Or.inr (Or.inr (Or.inr (Or.inl ⟨h1, h2, h3, h4⟩)))) ad mz w hP
  by_cases h5 : t < 0
  · exact labels_early m f t base (Or.inr (Or.inr (Or.inr (Or.inr (Or.inl ⟨h1, h2, h3, h4, h5⟩))))) ad mz w hP
  by_cases h6 : m < t
  · exact labels_early m f t base (Or.inr (Or.inr (Or.inr (Or.inr (Or.inr (Or.inl ⟨h1, h2, h3, h4, h5, h6⟩)))))) ad mz w hP
  cases h7 : (base.tmod 4 != 0) with
  | true => exact labels_early m f t base (Or.inr (Or.inr (Or.inr (Or.inr (Or.inr (Or.inr (Or.inl ⟨h1, h2, h3, h4, h5, h6, h7⟩))))))) ad mz w hP
  | false =>
    have h9 : base.tmod 4 = 0 := by simpa using h7
    by_cases h8 : 1048576 < base
    · exact labels_early m f t base (Or.inr (Or.inr (Or.inr (Or.inr (Or.inr (Or.inr (Or.inr ⟨h1, h2, h3, h4, h5, h6, h9, h8⟩))))))) ad mz w hP
    · rw [Int.tmod_eq_emod_of_nonneg hb0] at h9
      obtain ⟨m', rfl⟩ := Int.eq_ofNat_of_zero_le (a := m) (by omega)
      obtain ⟨f', rfl⟩ := Int.eq_ofNat_of_zero_le (a := f) (by omega)
      obtain ⟨t', rfl⟩ := Int.eq_ofNat_of_zero_le (a := t) (by omega)
      exact labels_main m' f' t' (by omega) (by omega) (by omega) base hb0 (by omega) h9 ad mz w hP
end Go.Proofs.YtnppegldebocmaaGreatDoor
