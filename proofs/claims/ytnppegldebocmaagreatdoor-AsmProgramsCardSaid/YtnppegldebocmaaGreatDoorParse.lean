/- The walk of asm.Parse: it answers as the plain law's parseB. Conditions: as the theorem states. -/
import Derived.Test.YtnppegldebocmaaGreatDoorWordsW
namespace Go.Proofs.YtnppegldebocmaaGreatDoor
open Go.RowKit
set_option linter.unusedVariables false
theorem split2_len : ∀ (n : Nat) (s : List UInt8), s.length ≤ n → ∀ p ∈ split2 s, p.length ≤ s.length
  | n, s, hn, p, hp => by
    rcases split2_first s.length s (Nat.le_refl _) with ⟨q, h1, h2, _⟩ | ⟨q, r, h1, h2, _⟩
    · rw [h1, List.mem_singleton] at hp
      rw [hp, ← h2]
      exact Nat.le_refl _
    · rw [h1] at hp
      rcases List.mem_cons.1 hp with e | e
      · rw [e, h2]; simp
      · match n, hn with
        | 0, hn => rw [h2] at hn; simp at hn
        | n + 1, hn =>
          have := split2_len n r (by rw [h2] at hn; simp at hn; omega) p e
          rw [h2]
          simp
          omega
theorem pieces_len (s : List UInt8) : ∀ p ∈ piecesB s, p.length ≤ s.length := by
  intro p hp
  unfold piecesB at hp
  split at hp
  · have := split2_len _ (cutC 32 s).2.1 (Nat.le_refl _) p hp
    exact Nat.le_trans this (cutC_len 32 s).2
  · cases hp
theorem loopB_step (c : UInt8) (o : List UInt8) (p : List UInt8) (ps : List (List UInt8)) (i : InsN) (e : Nat) : loopB (c :: o) (p :: ps) i e = if (readB i c p).2 = 1 then (insZ, 1) else loopB o ps (readB i c p).1 (if e = 0 then (readB i c p).2 else e) := rfl
theorem read_codes (i : InsN) (c : UInt8) (p : List UInt8) : (readB i c p).2 = 0 ∨ (readB i c p).2 = 1 ∨ (readB i c p).2 = 2 := by
  have hl : ∀ c s, (layB i c s).2 = 0 ∨ (layB i c s).2 = 1 ∨ (layB i c s).2 = 2 := by
    intro c s
    cases h : numB s with
    | none => rw [layB_none h]; exact Or.inr (Or.inl rfl)
    | some v => rcases lay_codes i c s h with q | q <;> rw [q] <;> simp
  unfold readB
  split
  · exact reg_codes p
  · split
    · exact reg_codes p
    · split
      · exact reg_codes p
      · split
        · unfold addrB
          split
          · split
            · exact Or.inr (Or.inl rfl)
            · split
              · exact Or.inr (Or.inl rfl)
              · split
                · exact hl _ _
                · exact reg_codes _
          · exact Or.inr (Or.inl rfl)
        · exact hl _ _
set_option maxHeartbeats 4000000 in
set_option maxRecDepth 100000 in
theorem parse_any (s : List UInt8) (hl : s.length ≤ 100) (ad : Nat → Addr) (mz : Int) (w : World) (h : PW w ad mz) :
    Calls Tryz.prog 11 #[.string (bsl s)] w fun e w' => e = .returned (.tuple #[insV (parseB s).1, errV ad (parseB s).2]) ∧ Below w.heap.size w w' := by
  have hal := (Below.refl w.heap.size w).alloc (Nat.le_refl _) (.cells #[.int .i64 0, .int .i64 0, .int .i64 0, .int .i64 0, .int .u32 0] 24)
  have HAL := Lib.hid hal
  have HP0 := Lib.hid (h.below hal)
  have HPW := Lib.hid h
  have hR0 : InsAt (w.alloc (.cells #[.int .i64 0, .int .i64 0, .int .i64 0, .int .i64 0, .int .u32 0] 24)) w.heap.size insZ := Five.new w _ _ _ _ _ _
  have HW := Lib.hid (words_asm s hl ad mz _ (h.below hal))
  have HLEN : Hid (∀ p ∈ piecesB s, p.length ≤ 100) := fun p hp => Nat.le_trans (pieces_len s p hp) hl
  have HPB : Hid (parseB s = if nameN (cutC 32 s).1 = 0 then (insZ, 5) else if (piecesB s).length ≠ (orderB (nameN (cutC 32 s).1)).length then (insZ, 1) else loopB (orderB (nameN (cutC 32 s).1)) (piecesB s) ⟨(nameN (cutC 32 s).1 : Int), 0, 0, 0, 0⟩ 0) := rfl
  have HNM := Lib.hid (fun W => named_any (cutC 32 s).1 W)
  have hk54 := nameN_lt (cutC 32 s).1
  clear h hal
  generalize hk : nameN (cutC 32 s).1 = k at *
  clear hk
  generalize (cutC 32 s).1 = nm at *
  generalize parseB s = R at *
  generalize piecesB s = L at *
  go_enter Tryz.func11, Tryz.ntmps11
  go_wp2_with fail
  generalize w.alloc (.cells #[.int .i64 0, .int .i64 0, .int .i64 0, .int .i64 0, .int .u32 0] 24) = w0 at *
  refine HW.out.mono ?_
  rintro e w1 ⟨v, rfl, hv, hb1⟩
  have HV := Lib.hid hv
  have HP1 := Lib.hid (HP0.out.below hb1)
  have hR1 := hR0.below hb1 hR0.lt
  have HR1 := Lib.hid hR1
  have HB1 := Lib.hid (HAL.out.trans (hb1.mono HAL.out.size))
  have hrl := hR1.lt
  clear hv hb1 hR0 hR1
  go_wp2_with fail
  refine (HNM.out w1).mono ?_
  rintro e w2 ⟨rfl, hb2⟩
  have HB2 := Lib.hid hb2
  have hsz2 := hb2.size
  have HSI : Hid (w1.heap.size ≤ w2.heap.size) := hsz2
  have hal2 := (Below.refl w2.heap.size w2).alloc (Nat.le_refl _) (.cells #[.int .i64 (k : Int), .int .i64 0, .int .i64 0, .int .i64 0, .int .u32 0] 24)
  have HI3 : Hid (InsAt (w2.alloc (.cells #[.int .i64 (k : Int), .int .i64 0, .int .i64 0, .int .i64 0, .int .u32 0] 24)) w2.heap.size ⟨(k : Int), 0, 0, 0, 0⟩) := Five.new w2 _ _ _ _ _ _
  have HB13 := Lib.hid (hb2.trans (hal2.mono hb2.size))
  have HB3 := Lib.hid (HB1.out.trans (HB13.out.mono HB1.out.size))
  have HR3 := Lib.hid (HR1.out.below HB13.out hrl)
  have HP3 := Lib.hid (HP1.out.below HB13.out)
  have HV3 := Lib.hid (HV.out.below HB13.out (Nat.le_refl _))
  obtain ⟨a0, a1, a2, a3, a4⟩ := Five.cells HI3.out
  have hil := Five.lt HI3.out
  clear hb2 hal2
  by_cases hk0 : k = 0
  · have hk0' : ((k : Int) == 0) = true := by rw [hk0]; rfl
    have HRR : Hid (R = (insZ, 5)) := by show _ = _; rw [HPB.out, if_pos hk0]
    clear hk0 hk54
    go_wp2_with fail
    generalize w2.alloc (.cells #[.int .i64 (k : Int), .int .i64 0, .int .i64 0, .int .i64 0, .int .u32 0] 24) = w3 at *
    generalize w2.heap.size = ib at *
    clear a0 a1 a2 a3 a4
    have HG := Lib.hid (Five.fill HR3.out (.int .i64 0) (.int .i64 0) (.int .i64 0) (.int .i64 0) (.int .u32 0))
    have HFN := Lib.hid (below_fill HB3.out (Nat.le_refl _) (.int .i64 0) (.int .i64 0) (.int .i64 0) (.int .i64 0) (.int .u32 0))
    obtain ⟨c0, c1, c2, c3, c4⟩ := Five.cells HR3.out
    obtain ⟨f0, f1, f2, f3, f4⟩ := Five.free HR3.out
    have hE2 : (fill5 w3 w.heap.size (.int .i64 0) (.int .i64 0) (.int .i64 0) (.int .i64 0) (.int .u32 0)).cell? ⟨0, 0, none⟩ = some (errE ad 4) := by
      rw [HFN.out.cell (World.block_lt_of_cell? _ _ (HPW.out.se.c4))]
      exact HPW.out.se.c4
    have hE1 : (w3).cell? ⟨0, 0, none⟩ = some (errE ad 4) := by
      rw [HB3.out.cell (World.block_lt_of_cell? _ _ (HPW.out.se.c4))]
      exact HPW.out.se.c4
    go_region_with fail
    all_goals
      go_wp2
      first
      | change bodyPost _ _ _ _ _ (fill5 (w3) w.heap.size (.int .i64 0) (.int .i64 0) (.int .i64 0) (.int .i64 0) (.int .u32 0))
      | change bodyPost _ _ _ _ _ (World.drew (fill5 (w3) w.heap.size (.int .i64 0) (.int .i64 0) (.int .i64 0) (.int .i64 0) (.int .u32 0)))
      clear c0 c1 c2 c3 c4 f0 f1 f2 f3 f4 hE1 hE2
      generalize fill5 (w3) w.heap.size (.int .i64 0) (.int .i64 0) (.int .i64 0) (.int .i64 0) (.int .u32 0) = W5 at *
      obtain ⟨q0, q1, q2, q3, q4⟩ := Five.cells HG.out
      first
      | exact bodyPost_ret (v := .tuple #[insV insZ, errE ad 4]) (by simp [results, Tryz.results11, go_sem, q0, q1, q2, q3, q4]) rfl ⟨by rw [HRR.out]; rfl, HFN.out⟩
      | exact bodyPost_ret (v := .tuple #[insV insZ, errE ad 4]) (by simp [results, Tryz.results11, go_sem, q0, q1, q2, q3, q4]) rfl ⟨by rw [HRR.out]; rfl, HFN.out.drew⟩
  · have hk0' : ((k : Int) == 0) = false := beq_eq_false_iff_ne.2 (by omega)
    have HO := Lib.hid (fun W => order_any k (by omega) hk54 W)
    obtain ⟨ol, oL, _, _⟩ := order_facts k hk54
    have HOL := Lib.hid oL
    have HPB2 : Hid (R = if L.length ≠ (orderB k).length then (insZ, 1) else loopB (orderB k) L ⟨(k : Int), 0, 0, 0, 0⟩ 0) := by show _ = _; rw [HPB.out, if_neg hk0]
    clear oL hk0 HPB
    generalize orderB k = o at *
    go_wp2_with fail
    generalize w2.alloc (.cells #[.int .i64 (k : Int), .int .i64 0, .int .i64 0, .int .i64 0, .int .u32 0] 24) = w3 at *
    generalize w2.heap.size = ib at *
    refine (HO.out w3).mono ?_
    rintro e w4 ⟨rfl, hb4⟩
    have HI4 := Lib.hid (HI3.out.below hb4 hil)
    have HB14 := Lib.hid (HB13.out.trans (hb4.mono HB13.out.size))
    have HB4 := Lib.hid (HB3.out.trans (hb4.mono HB3.out.size))
    have HR4 := Lib.hid (HR1.out.below HB14.out hrl)
    have HV4 := Lib.hid (HV.out.below HB14.out (Nat.le_refl _))
    have hil4 := Five.lt HI4.out
    have HSIT : Hid (w1.heap.size ≤ w4.heap.size) := HB14.out.size
    clear hb4 HI3 HB13 HB3 HR3 HP3 HV3 hil
    have hvl : ∃ a n cap, v = .slice a n cap ∧ n = L.length := by
      rcases HV.out with ⟨rfl, rfl⟩ | ⟨g, rfl, _⟩
      · exact ⟨none, 0, 0, rfl, rfl⟩
      · exact ⟨_, _, _, rfl, rfl⟩
    obtain ⟨va, vn, vc, rfl, rfl⟩ := hvl
    have hos := bsl_size o
    by_cases hln : L.length = o.length
    · have hln2 : ((L.length : Int) == (o.length : Int)) = true := by rw [hln]; exact beq_self_eq_true _
      have HPB3 : Hid (R = loopB o L ⟨(k : Int), 0, 0, 0, 0⟩ 0) := by show _ = _; rw [HPB2.out, if_neg (fun q => q hln)]
      have HLN := Lib.hid hln
      clear hln HPB2 a0 a1 a2 a3 a4
      go_wp2_with fail
      have HI0 : Hid ((w4.iter (bsl o) 0).heap[w4.heap.size]? = some (.stringIter (bsl o) 0)) := iter_new _ _ _ _ rfl
      have hI5 : InsAt (w4.iter (bsl o) 0) ib ⟨(k : Int), 0, 0, 0, 0⟩ := HI4.out.below (below_iter (Below.refl w4.heap.size w4) (Nat.le_refl _) _ _) hil4
      have hB5 : Below w1.heap.size w1 (w4.iter (bsl o) 0) := below_iter HB14.out HB14.out.size _ _
      have HIB : Hid (w1.heap.size ≤ ib) := HSI.out
      have hsz5 : w4.heap.size < (w4.iter (bsl o) 0).heap.size := by simp [World.iter]
      have hbn : ((L.length : Int) != (o.length : Int)) = false := by rw [bne, hln2]; rfl
      simp only [hbn]
      generalize w4.iter (bsl o) 0 = w5 at *
      generalize hit0 : w4.heap.size = it at *
      clear hit0
      go_loopw [3, 8] (fun _ v8 wr => ∃ (j : Nat) (i' : InsN) (e' : Nat), j ≤ o.length ∧ v8 = errV ad e' ∧ Hid (e' = 0 ∨ e' = 2) ∧ Hid (wr.heap[it]? = some (.stringIter (bsl o) j)) ∧ Hid (R = loopB (o.drop j) (L.drop j) i' e') ∧ Hid (InsAt wr ib i') ∧ Hid (Below w1.heap.size w1 wr) ∧ it < wr.heap.size) (fun _ _ wr => o.length - wr.iterPos it)
      case atStart => exact ⟨0, _, 0, Nat.zero_le _, rfl, Or.inl rfl, HI0, HPB3, hI5, hB5, hsz5⟩
      case round =>
        obtain ⟨j, i', e', hj, rfl, HE, hit, HRJ, HIJ, HBJ, hitl⟩ := hrel
        have HPJ := Lib.hid (HP1.out.below HBJ.out)
        have HRRJ := Lib.hid (HR1.out.below HBJ.out hrl)
        have HVJ := Lib.hid (HV.out.below HBJ.out (Nat.le_refl _))
        have HBWJ := Lib.hid (HB1.out.trans (HBJ.out.mono HB1.out.size))
        by_cases hlt : j < o.length
        · have hc : o[j]? = some o[j] := List.getElem?_eq_getElem hlt
          have HMEM := Lib.hid (List.getElem_mem hlt)
          have hjL : j < L.length := by have := HLN.out; omega
          have HLP := Lib.hid (HLEN.out _ (List.getElem_mem hjL))
          have hdo : o.drop j = o[j] :: o.drop (j + 1) := List.drop_eq_getElem_cons hlt
          have hdl : L.drop j = L[j] :: L.drop (j + 1) := List.drop_eq_getElem_cons hjL
          have HRS : Hid (R = if (readB i' o[j] L[j]).2 = 1 then (insZ, 1) else loopB (o.drop (j + 1)) (L.drop (j + 1)) (readB i' o[j] L[j]).1 (if e' = 0 then (readB i' o[j] L[j]).2 else e')) := by show _ = _; rw [HRJ.out, hdo, hdl]; rfl
          obtain ⟨g, hgv, hgl, hgc⟩ : ∃ g, (Value.slice va L.length vc) = .slice (some ⟨g, 0, none⟩) L.length L.length ∧ g < wr.heap.size ∧ ∀ j (h : j < L.length), wr.cell? ⟨g, j, none⟩ = some (.string (bsl L[j])) := by
            rcases HVJ.out with ⟨_, q⟩ | q
            · rw [q] at hjL; simp at hjL
            · exact q
          have hcell := hgc j hjL
          obtain ⟨hva, _, hvc⟩ : va = some ⟨g, 0, none⟩ ∧ L.length = L.length ∧ vc = L.length := by simpa using hgv
          have hjL' : (j : Int) < (L.length : Int) := by omega
          clear hdo hdl hgc hgv
          subst hva hvc
          generalize hp : L[j] = p at *
          generalize o[j] = y at hc HMEM HRS
          clear hp
          have hy : y ∈ opLetters := HOL.out y HMEM.out
          have HY := Lib.hid hy
          have hnx : ∀ ty, (Instr.next (.pointer (some ⟨it, 0, none⟩)) true ty).run Tryz.prog wr = _ := fun ty => next_lit_at (P := Tryz.prog) wr it o j ty y (y.toNat : Int) hit.out hc rfl (letters_small y hy)
          clear hc hy
          have hgi : g ≠ it := fun q => by
            subst q
            have := hit.out
            unfold World.cell? at hcell
            rw [this] at hcell
            cases hcell
          have hcell2 : (wr.iterAt it (bsl o) (j + 1)).cell? ⟨g, j, none⟩ = some (.string (bsl p)) := by
            unfold World.cell? at hcell ⊢
            rw [Go.Lib.iterAt_other wr it g _ _ hgi]
            exact hcell
          have hii : ib ≠ it := fun q => by
            subst q
            have h1 := hit.out
            have h2 : wr.heap[ib]? = _ := HIJ.out
            rw [h1] at h2
            cases h2
          have hit2 : Hid ((wr.iterAt it (bsl o) (j + 1)).heap[it]? = some (.stringIter (bsl o) (j + 1))) := Lib.iterAt_heap wr it _ j _ hit.out
          have HI2 : Hid (InsAt (wr.iterAt it (bsl o) (j + 1)) ib i') := Five.iterAt HIJ.out hii _ _
          have hw1i : w1.heap.size ≤ it := HSIT.out
          have HB2' : Hid (Below w1.heap.size w1 (wr.iterAt it (bsl o) (j + 1))) := Lib.below_iterAt HBJ.out hw1i _ _
          have HPI := Lib.hid (HP1.out.below HB2'.out)
          have HM := Lib.hid (iterPos_of hit.out)
          have hitl2 : it < (wr.iterAt it (bsl o) (j + 1)).heap.size := by simpa [World.iterAt] using hitl
          have HRD := Lib.hid (fun (W : World) (hW : PW W ad mz) (hI : InsAt W ib i') => read_any ib i' y (by have := HY.out; unfold opLetters at this; exact this) p HLP.out ad mz W hW hI)
          clear hit hcell
          go_wp2_with fail
          refine (HRD.out _ HPI.out HI2.out).mono ?_
          rintro e w6 ⟨rfl, hI6, ho6⟩
          have hB6 := HB2'.out.trans (ho6.below.mono HIB.out)
          have hit6 : Hid (w6.heap[it]? = some (.stringIter (bsl o) (j + 1))) := (ho6.oth it hitl2 (fun q => hii q.symm)).trans hit2.out
          have hitl6 : it < w6.heap.size := Nat.lt_of_lt_of_le hitl2 ho6.below.size
          have HB6 := Lib.hid hB6
          have HI6 := Lib.hid hI6
          have HP6 := Lib.hid (HP1.out.below hB6)
          have HR6 := Lib.hid (HR1.out.below hB6 hrl)
          have HBW6 := Lib.hid (HB1.out.trans (hB6.mono HB1.out.size))
          have ct := HP6.out.se.c0
          clear hI6 ho6 hB6 hcell2 hnx hii hgi hitl2
          have HRC0 := Lib.hid (read_codes i' y p)
          obtain ⟨rc, hrc⟩ : ∃ rc, (readB i' y p).2 = rc := ⟨_, rfl⟩
          obtain ⟨q, hq⟩ : ∃ q, (readB i' y p).1 = q := ⟨_, rfl⟩
          rw [hrc] at HRC0
          rw [hrc]

          rw [hrc, hq] at HRS
          rw [hq] at HI6
          clear hrc hq HRD
          rcases HRC0.out with hr | hr | hr
          · subst hr
            rw [errV_0]
            rcases HE.out with he' | he'
            · subst he'
              rw [errV_0]
              have he := fun W => eql_nil 214 (.pointer (some (ad 0))) W
              go_wp2
              go_roundw
              case rel => exact ⟨j + 1, q, 0, by omega, rfl, Or.inl rfl, hit6, by show _ = _; rw [HRS.out, if_neg (by decide)]; rfl, HI6, HB6, hitl6⟩
              case measure => rw [iterPos_of hit6.out, HM.out]; omega
            · subst he'
              rw [errV_2]
              have he := fun W => eql_nil 214 (.pointer (some (ad 0))) W
              go_wp2
              go_roundw
              case rel => exact ⟨j + 1, q, 2, by omega, rfl, Or.inr rfl, hit6, by show _ = _; rw [HRS.out, if_neg (by decide)]; rfl, HI6, HB6, hitl6⟩
              case measure => rw [iterPos_of hit6.out, HM.out]; omega
          · subst hr
            rw [errV_1]
            have HRR : Hid (R = (insZ, 1)) := by show _ = _; rw [HRS.out, if_pos rfl]
            have he := fun W => eql_same (ad 0) W
            have HG := Lib.hid (Five.fill HR6.out (.int .i64 0) (.int .i64 0) (.int .i64 0) (.int .i64 0) (.int .u32 0))
            have HFN := Lib.hid (below_fill HBW6.out (Nat.le_refl _) (.int .i64 0) (.int .i64 0) (.int .i64 0) (.int .i64 0) (.int .u32 0))
            obtain ⟨c0, c1, c2, c3, c4⟩ := Five.cells HR6.out
            obtain ⟨f0, f1, f2, f3, f4⟩ := Five.free HR6.out
            go_wp2_with fail
            all_goals
              go_wp2
              first
              | change bodyPost _ _ _ _ _ (fill5 (w6) w.heap.size (.int .i64 0) (.int .i64 0) (.int .i64 0) (.int .i64 0) (.int .u32 0))
              | change bodyPost _ _ _ _ _ (World.drew (fill5 (w6) w.heap.size (.int .i64 0) (.int .i64 0) (.int .i64 0) (.int .i64 0) (.int .u32 0)))
              clear c0 c1 c2 c3 c4 f0 f1 f2 f3 f4
              generalize fill5 (w6) w.heap.size (.int .i64 0) (.int .i64 0) (.int .i64 0) (.int .i64 0) (.int .u32 0) = W5 at *
              obtain ⟨q0, q1, q2, q3, q4⟩ := Five.cells HG.out
              first
              | exact bodyPost_ret (v := .tuple #[insV insZ, errE ad 0]) (by simp [results, Tryz.results11, go_sem, q0, q1, q2, q3, q4]) rfl ⟨by rw [HRR.out]; rfl, HFN.out⟩
              | exact bodyPost_ret (v := .tuple #[insV insZ, errE ad 0]) (by simp [results, Tryz.results11, go_sem, q0, q1, q2, q3, q4]) rfl ⟨by rw [HRR.out]; rfl, HFN.out.drew⟩
          · subst hr
            rw [errV_2]
            rcases HE.out with he' | he'
            · subst he'
              rw [errV_0]
              have he := HP6.out.other 1 0 (by decide) (by decide) (by decide)
              go_wp2
              go_roundw
              case rel => exact ⟨j + 1, q, 2, by omega, rfl, Or.inr rfl, hit6, by show _ = _; rw [HRS.out, if_neg (by decide)]; rfl, HI6, HB6, hitl6⟩
              case measure => rw [iterPos_of hit6.out, HM.out]; omega
            · subst he'
              rw [errV_2]
              have he := HP6.out.other 1 0 (by decide) (by decide) (by decide)
              go_wp2
              go_roundw
              case rel => exact ⟨j + 1, q, 2, by omega, rfl, Or.inr rfl, hit6, by show _ = _; rw [HRS.out, if_neg (by decide)]; rfl, HI6, HB6, hitl6⟩
              case measure => rw [iterPos_of hit6.out, HM.out]; omega
        · have hjl : j = o.length := by omega
          subst hjl
          have hnx : ∀ ty, (Instr.next (.pointer (some ⟨it, 0, none⟩)) true ty).run Tryz.prog wr = _ := fun ty => next_fin_at (P := Tryz.prog) wr it o o.length ty hit.out (by omega)
          have HRF : Hid (R = if e' = 0 then (i', 0) else (insZ, e')) := by show _ = _; rw [HRJ.out, List.drop_length, loopB]
          have HITK := Lib.hid hit
          clear hit
          rcases HE.out with he' | he'
          · subst he'
            rw [errV_0]
            have HRR : Hid (R = (i', 0)) := by show _ = _; rw [HRF.out, if_pos rfl]
            have HG := Lib.hid (Five.fill HRRJ.out (.int .i64 i'.op) (.int .i64 i'.s) (.int .i64 i'.t) (.int .i64 i'.d) (.int .u32 i'.imm))
            have HFN := Lib.hid (below_fill HBWJ.out (Nat.le_refl _) (.int .i64 i'.op) (.int .i64 i'.s) (.int .i64 i'.t) (.int .i64 i'.d) (.int .u32 i'.imm))
            obtain ⟨x0, x1, x2, x3, x4⟩ := Five.cells HIJ.out
            obtain ⟨c0, c1, c2, c3, c4⟩ := Five.cells HRRJ.out
            obtain ⟨f0, f1, f2, f3, f4⟩ := Five.free HRRJ.out
            go_wp2_with fail
            change bodyPost _ _ _ _ _ (fill5 wr w.heap.size (.int .i64 i'.op) (.int .i64 i'.s) (.int .i64 i'.t) (.int .i64 i'.d) (.int .u32 i'.imm))
            clear c0 c1 c2 c3 c4 f0 f1 f2 f3 f4 x0 x1 x2 x3 x4
            generalize fill5 wr w.heap.size (.int .i64 i'.op) (.int .i64 i'.s) (.int .i64 i'.t) (.int .i64 i'.d) (.int .u32 i'.imm) = W5 at *
            obtain ⟨q0, q1, q2, q3, q4⟩ := Five.cells HG.out
            exact bodyPost_ret (v := .tuple #[insV i', .nilIface]) (by simp [results, Tryz.results11, go_sem, q0, q1, q2, q3, q4]) rfl ⟨by rw [HRR.out]; rfl, HFN.out⟩
          · subst he'
            rw [errV_2]
            have HRR : Hid (R = (insZ, 2)) := by show _ = _; rw [HRF.out, if_neg (by decide)]
            have HG := Lib.hid (Five.fill HRRJ.out (.int .i64 0) (.int .i64 0) (.int .i64 0) (.int .i64 0) (.int .u32 0))
            have HFN := Lib.hid (below_fill HBWJ.out (Nat.le_refl _) (.int .i64 0) (.int .i64 0) (.int .i64 0) (.int .i64 0) (.int .u32 0))
            obtain ⟨c0, c1, c2, c3, c4⟩ := Five.cells HRRJ.out
            obtain ⟨f0, f1, f2, f3, f4⟩ := Five.free HRRJ.out
            go_wp2_with fail
            all_goals
              go_wp2
              first
              | change bodyPost _ _ _ _ _ (fill5 (wr) w.heap.size (.int .i64 0) (.int .i64 0) (.int .i64 0) (.int .i64 0) (.int .u32 0))
              | change bodyPost _ _ _ _ _ (World.drew (fill5 (wr) w.heap.size (.int .i64 0) (.int .i64 0) (.int .i64 0) (.int .i64 0) (.int .u32 0)))
              clear c0 c1 c2 c3 c4 f0 f1 f2 f3 f4
              generalize fill5 (wr) w.heap.size (.int .i64 0) (.int .i64 0) (.int .i64 0) (.int .i64 0) (.int .u32 0) = W5 at *
              obtain ⟨q0, q1, q2, q3, q4⟩ := Five.cells HG.out
              first
              | exact bodyPost_ret (v := .tuple #[insV insZ, errE ad 1]) (by simp [results, Tryz.results11, go_sem, q0, q1, q2, q3, q4]) rfl ⟨by rw [HRR.out]; rfl, HFN.out⟩
              | exact bodyPost_ret (v := .tuple #[insV insZ, errE ad 1]) (by simp [results, Tryz.results11, go_sem, q0, q1, q2, q3, q4]) rfl ⟨by rw [HRR.out]; rfl, HFN.out.drew⟩
    · have hne : ((L.length : Int) == (o.length : Int)) = false := beq_eq_false_iff_ne.2 (by omega)
      have HRR : Hid (R = (insZ, 1)) := by show _ = _; rw [HPB2.out, if_pos hln]
      have HG := Lib.hid (Five.fill HR4.out (.int .i64 0) (.int .i64 0) (.int .i64 0) (.int .i64 0) (.int .u32 0))
      have HFN := Lib.hid (below_fill HB4.out (Nat.le_refl _) (.int .i64 0) (.int .i64 0) (.int .i64 0) (.int .i64 0) (.int .u32 0))
      obtain ⟨c0, c1, c2, c3, c4⟩ := Five.cells HR4.out
      obtain ⟨f0, f1, f2, f3, f4⟩ := Five.free HR4.out
      have hE2 : (fill5 w4 w.heap.size (.int .i64 0) (.int .i64 0) (.int .i64 0) (.int .i64 0) (.int .u32 0)).cell? ⟨1, 0, none⟩ = some (errE ad 0) := by
        rw [HFN.out.cell (World.block_lt_of_cell? _ _ (HPW.out.se.c0))]
        exact HPW.out.se.c0
      have hE1 : (w4).cell? ⟨1, 0, none⟩ = some (errE ad 0) := by
        rw [HB4.out.cell (World.block_lt_of_cell? _ _ (HPW.out.se.c0))]
        exact HPW.out.se.c0
      go_wp2_with fail
      go_region_with fail
      all_goals
        go_wp2
        first
        | change bodyPost _ _ _ _ _ (fill5 (w4) w.heap.size (.int .i64 0) (.int .i64 0) (.int .i64 0) (.int .i64 0) (.int .u32 0))
        | change bodyPost _ _ _ _ _ (World.drew (fill5 (w4) w.heap.size (.int .i64 0) (.int .i64 0) (.int .i64 0) (.int .i64 0) (.int .u32 0)))
        clear c0 c1 c2 c3 c4 f0 f1 f2 f3 f4 hE1 hE2
        generalize fill5 (w4) w.heap.size (.int .i64 0) (.int .i64 0) (.int .i64 0) (.int .i64 0) (.int .u32 0) = W5 at *
        obtain ⟨q0, q1, q2, q3, q4⟩ := Five.cells HG.out
        first
        | exact bodyPost_ret (v := .tuple #[insV insZ, errE ad 0]) (by simp [results, Tryz.results11, go_sem, q0, q1, q2, q3, q4]) rfl ⟨by rw [HRR.out]; rfl, HFN.out⟩
        | exact bodyPost_ret (v := .tuple #[insV insZ, errE ad 0]) (by simp [results, Tryz.results11, go_sem, q0, q1, q2, q3, q4]) rfl ⟨by rw [HRR.out]; rfl, HFN.out.drew⟩
end Go.Proofs.YtnppegldebocmaaGreatDoor
