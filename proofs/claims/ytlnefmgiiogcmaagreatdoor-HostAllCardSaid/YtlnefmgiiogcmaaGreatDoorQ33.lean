/- A row of instructions copied by append. The walk of ir's right. The walk of ir's sums, op by op. Conditions: as each theorem states. -/
import Derived.Test.YtlnefmgiiogcmaaGreatDoorQ18
import Derived.Deep.AppendLies
import Derived.Test.YtlnefmgiiogcmaaGreatDoorQ13
set_option linter.unusedVariables false
set_option linter.unusedSimpArgs false
namespace Go.Proofs.YtlnefmgiiogcmaaGreatDoor
open Go.RowKit
theorem addr_off (g o j : Nat) : (⟨g, o, none⟩ : Addr).add j = ⟨g, o + j, none⟩ := by
  unfold Addr.add
  cases j <;> simp
def insC (i : InsN) : List Value := [.int .i64 i.op, .int .i64 i.s, .int .i64 i.t, .int .i64 i.d, .int .u32 i.imm]
theorem flat5 : ∀ (L : List InsN) (j : Nat) (h : j < L.length) (c : Nat), c < 5 → (L.flatMap insC)[j * 5 + c]? = (insC L[j])[c]?
  | [], j, h, c, hc => absurd h (Nat.not_lt_zero j)
  | i :: t, 0, h, c, hc => by
    rw [List.flatMap_cons, List.getElem?_append_left (by simp [insC]; omega)]
    simp
  | i :: t, j + 1, h, c, hc => by
    rw [List.flatMap_cons, List.getElem?_append_right (by simp [insC]; omega)]
    have e : (j + 1) * 5 + c - (insC i).length = j * 5 + c := by simp [insC]; omega
    rw [e, flat5 t j (by simpa using h) c hc]
    simp
theorem flat5_len (L : List InsN) : (L.flatMap insC).length = L.length * 5 := by
  induction L with
  | nil => rfl
  | cons i t ih =>
    rw [List.flatMap_cons, List.length_append, ih, List.length_cons]
    simp [insC]
    omega
theorem flat5_one (L : List InsN) : ∀ u ∈ L.flatMap insC, u.oneCell' = true := by
  intro u hu
  obtain ⟨i, _, h⟩ := List.mem_flatMap.1 hu
  simp only [insC, List.mem_cons, List.not_mem_nil, or_false] at h
  rcases h with rfl | rfl | rfl | rfl | rfl <;> rfl
theorem flat5_news {w : World} {g o : Nat} {L : List InsN} (h : InsAt w g o L) : ∀ j u, (L.flatMap insC)[j]? = some u → w.cell? ((⟨g, o, none⟩ : Addr).add j) = some u := by
  intro j u hu
  have hlt : j < L.length * 5 := by rw [← flat5_len]; exact (List.getElem?_eq_some_iff.1 hu).1
  obtain ⟨q, c, hc, rfl⟩ : ∃ q c, c < 5 ∧ j = q * 5 + c := ⟨j / 5, j % 5, by omega, by omega⟩
  have hq : q < L.length := by omega
  rw [flat5 L q hq c hc] at hu
  have ha : ((⟨g, o, none⟩ : Addr).add (q * 5 + c)) = ⟨g, o + q * 5 + c, none⟩ := by
    rw [Nat.add_assoc, addr_off]
  rw [ha]
  obtain ⟨c0, c1, c2, c3, c4⟩ := h.row q hq
  have hcc : c = 0 ∨ c = 1 ∨ c = 2 ∨ c = 3 ∨ c = 4 := by omega
  rcases hcc with rfl | rfl | rfl | rfl | rfl <;> (simp only [insC, List.getElem?_cons_zero, List.getElem?_cons_succ, Option.some.injEq] at hu; subst hu)
  · exact c0
  · exact c1
  · exact c2
  · exact c3
  · exact c4
theorem insAt_own {w : World} {B g cap : Nat} {L : List InsN} (h : w.ownsRow B 69 5 (.slice (some ⟨g, 0, none⟩) L.length cap) L.length (L.flatMap insC)) (hn : 0 < L.length) :
    InsAt w g 0 L ∧ B ≤ g ∧ ∃ cs fr, w.heap[g]? = some (.cells cs 69 fr) := by
  obtain ⟨hl, h' | ⟨g2, cap2, cur, hv, hg, hh, hc, _⟩⟩ := id h
  · exact absurd h'.2 (by omega)
  · have hgg : g = g2 := by
      simp only [Value.slice.injEq, Option.some.injEq, Addr.mk.injEq] at hv
      exact hv.1.1
    subst hgg
    refine ⟨⟨fun j hj => ?_⟩, hg, _, _, hh⟩
    have key : ∀ c u, c < 5 → (insC L[j])[c]? = some u → w.cell? ⟨g, 0 + j * 5 + c, none⟩ = some u := by
      intro c u hc5 hu
      have := h.cells (show (Value.slice (some ⟨g, 0, none⟩) L.length cap).ownBlock = some g from rfl) (j * 5 + c) u (by rw [flat5 L j hj c hc5]; exact hu)
      have ha : (⟨g, 0, none⟩ : Addr).add (j * 5 + c) = ⟨g, 0 + j * 5 + c, none⟩ := by
        rw [Nat.add_assoc, addr_off]
      rw [ha] at this
      exact this
    exact ⟨key 0 _ (by omega) rfl, key 1 _ (by omega) rfl, key 2 _ (by omega) rfl, key 3 _ (by omega) rfl, key 4 _ (by omega) rfl⟩
theorem Tryz.infoIns : (Tryz.prog.info? 69).map (fun i => (i.zero, i.size, i.bytes)) = some (some (.agg #[.int .i64 0, .int .i64 0, .int .i64 0, .int .i64 0, .int .u32 0]), 5, 40) := by kernel_rfl
end Go.Proofs.YtlnefmgiiogcmaaGreatDoor
namespace Go.Proofs.YtlnefmgiiogcmaaGreatDoor
open Go.RowKit
def errV (ad : Nat → Addr) (n : Nat) : Value := if n = 0 then .nilIface else errI (ad (n - 1))
theorem bw_al {a w : World} {o : Obj} (h : Below a.heap.size a w) : Below a.heap.size a (w.alloc o) := h.alloc h.size o
theorem bw_tr {a w w2 : World} (h : Below a.heap.size a w) (h2 : Below w.heap.size w w2) : Below a.heap.size a w2 := h.trans (h2.mono h.size)
abbrev Tri3 (w : World) (b : Nat) (a0 a1 a2 : Value) : Prop := w.heap[b]? = some (.cells #[a0, a1, a2] 41 (0, 0))
theorem Tri3.cells {w : World} {b : Nat} {a0 a1 a2 : Value} (h : Tri3 w b a0 a1 a2) : w.cell? ⟨b, 0, none⟩ = some a0 ∧ w.cell? ⟨b, 1, none⟩ = some a1 ∧ w.cell? ⟨b, 2, none⟩ = some a2 := by
  unfold Tri3 at h
  refine ⟨?_, ?_, ?_⟩ <;> simp [World.cell?, h]
set_option maxHeartbeats 4000000 in
theorem right_any {w : World} {g o cap : Nat} {l : List InsN} {pc : Int} {vp : Value} {ad : Nat → Addr} (hl : l.length ≤ 30) (h : InsAt w g o l) (hf : ∀ i ∈ l, i.Fits) (hS : Sents w ad) :
    Calls Tryz.prog 16 #[.agg #[.int .u32 pc, .slice (some ⟨g, o, none⟩) l.length cap, vp]] w fun e w' => e = .returned (errV ad (regErr l)) ∧ Below w.heap.size w w' := by
  have hBox := (Below.refl w.heap.size w).alloc (Nat.le_refl _) (.cells #[.int .u32 pc, .slice (some ⟨g, o, none⟩) l.length cap, vp] 41)
  have HBOX := Lib.hid hBox
  have HS0 := Lib.hid (hS.below hBox)
  have hbx : Tri3 (w.alloc (.cells #[.int .u32 pc, .slice (some ⟨g, o, none⟩) l.length cap, vp] 41)) w.heap.size (.int .u32 pc) (.slice (some ⟨g, o, none⟩) l.length cap) vp := heap_alloc_new w _
  have HBX := Lib.hid hbx
  have HI := Lib.hid h
  have HF := Lib.hid hf
  have l30 : (l.length : Int) ≤ 30 := by omega
  have cN := HS0.out.c5
  have cB := HS0.out.c1
  have cK := HS0.out.c3
  clear h hf hS hBox hbx
  by_cases hn : l = []
  · subst hn
    simp only [List.length_nil] at cN HBOX ⊢
    go_enter Tryz.func16, Tryz.ntmps16
    go_wp2
    go_ret
    exact ⟨rfl, HBOX.out⟩
  · have hlen : 0 < l.length := List.length_pos_iff.2 hn
    have HN := Lib.hid hn
    have l0 : ((l.length : Int) == 0) = false := by simp only [beq_eq_false_iff_ne, ne_eq]; omega
    clear hn
    by_cases hb : 24 < l.length
    · have HV : Hid (regErr l = 2) := by
        refine Lib.hid ?_
        unfold regErr
        rw [if_neg HN.out, if_pos hb]
      have l24 : (24 : Int) < (l.length : Int) := by omega
      go_enter Tryz.func16, Tryz.ntmps16
      go_wp2
      go_ret
      exact ⟨by rw [HV.out]; rfl, HBOX.out⟩
    · have l24 : (l.length : Int) ≤ 24 := by omega
      have HB24 : Hid (l.length ≤ 24) := Lib.hid (by omega)
      have HL0 := Lib.hid hlen
      clear hb hlen hl
      go_enter Tryz.func16, Tryz.ntmps16
      clear cN cB
      go_wp2_with fail
      generalize w.alloc (.cells #[.int .u32 pc, .slice (some ⟨g, o, none⟩) l.length cap, vp] 41) = wb at *
      go_loopw [2, 4, 23] (fun rr st i wr => ∃ j : Nat, j ≤ l.length ∧ rr = .nilIface ∧ st = .int .i64 (storesN (l.take j) : Int) ∧ i = .int .i64 (j : Int) ∧ Hid (Below wb.heap.size wb wr) ∧ Hid (∀ k (h : k < l.length), k < j → okAt l.length k l[k] = true)) (fun _ _ i _ => l.length - (intOf i).toNat)
      case atStart => exact ⟨0, Nat.zero_le _, rfl, rfl, rfl, Lib.hid (Below.refl _ _), Lib.hid (fun k _ hk => absurd hk (Nat.not_lt_zero k))⟩
      case round =>
        obtain ⟨j, hj, rfl, rfl, rfl, HB, HA⟩ := hrel
        have hs0 : (0 : Int) ≤ (storesN (l.take j) : Int) := by omega
        have hs1 : (storesN (l.take j) : Int) ≤ 24 := by
          have h1 := storesN_le (l.take j)
          rw [List.length_take] at h1
          have := HB24.out
          omega
        by_cases hlt : j < l.length
        · have hjI : (j : Int) < (l.length : Int) := by omega
          have HIj := Lib.hid ((HI.out.below HBOX.out HL0.out).below HB.out HL0.out)
          obtain ⟨c0, c1, c2, c3, c4⟩ := HIj.out.row j hlt
          have HFX := Lib.hid (HF.out l[j] (List.getElem_mem hlt))
          have HT := Lib.hid (storesN_take l j hlt)
          have HJ := Lib.hid hlt
          have HBAD : Hid (okAt l.length j l[j] = false → regErr l = 4) := Lib.hid (regErr_bad HN.out HB24.out hlt)
          have HOKJ : Hid (okAt l.length j l[j] = true → ∀ k (h : k < l.length), k < j + 1 → okAt l.length k l[k] = true) := by
            refine Lib.hid ?_
            intro ho k hk hkj
            by_cases e : k = j
            · subst e; exact ho
            · exact HA.out k hk (by omega)
          generalize l[j]'hlt = x at *
          obtain ⟨op, s, t, d, m⟩ := x
          simp only at c0 c1 c2 c3 c4 HT
          have HK := Lib.hid (fun wx => kindOf_any op wx)
          obtain ⟨S0, hS0⟩ : ∃ S0, storesN (l.take j) = S0 := ⟨_, rfl⟩
          rw [hS0] at HT hs0 hs1 ⊢
          clear hS0
          have hkl : (bsl (kindOfB op)).toList = kindOfB op := bsl_toList' _
          have HSr := Lib.hid (HS0.out.below HB.out)
          have hck := HSr.out.c3
          cases hie : insErr ⟨op, s, t, d, m⟩ with
          | true =>
            obtain ⟨q, hq⟩ := enc_no ⟨op, s, t, d, m⟩ HFX.out hie ad
            have HE := Lib.hid hq
            clear hq
            have hbad : okAt l.length j ⟨op, s, t, d, m⟩ = false := by
              unfold okAt
              rw [hie]
              rfl
            have HR4 : Hid (regErr l = 4) := Lib.hid (HBAD.out hbad)
            obtain ⟨bx0, bx1, bx2⟩ := Tri3.cells ((HB.out.block w.heap.size (Array.getElem?_eq_some_iff.1 HBX.out).1).trans HBX.out)
            clear hbad hie hkl
            go_wp2_with fail
            refine (HE.out _ (HSr.out.below (bw_al (Below.refl _ _)))).mono ?_
            rintro e w1 ⟨rfl, hb1⟩
            have hw1 := bw_tr (bw_al (Below.refl wr.heap.size wr)) hb1
            have cK1 := (HSr.out.below hw1).c3
            have HBF := Lib.hid (HBOX.out.trans ((HB.out.mono HBOX.out.size).trans (hw1.mono (Nat.le_trans HBOX.out.size HB.out.size))))
            clear hb1 hw1
            go_wp2
            go_ret
            exact ⟨by rw [HR4.out]; rfl, HBF.out⟩
          | false =>
            have HE := Lib.hid (enc_yes ⟨op, s, t, d, m⟩ HFX.out hie ad)
            obtain ⟨bx0, bx1, bx2⟩ := Tri3.cells ((HB.out.block w.heap.size (Array.getElem?_eq_some_iff.1 HBX.out).1).trans HBX.out)
            go_wp2_with fail
            refine (HE.out _ (HSr.out.below (bw_al (Below.refl _ _)))).mono ?_
            rintro e w1 ⟨rfl, hb1⟩
            have hw1 := bw_tr (bw_al (Below.refl wr.heap.size wr)) hb1
            have cop : w1.cell? ⟨wr.heap.size, 0, none⟩ = some (.int .i64 op) := by
              have := (hb1.block wr.heap.size (by simp)).trans (heap_alloc_new wr _)
              simp [World.cell?, this]
            have HW1 := Lib.hid hw1
            clear hb1 hw1 bx0 bx1 bx2
            go_wp2_with fail
            (with_reducible refine (HK.out _).mono ?_)
            rintro e w2 ⟨rfl, hb2⟩
            have hw2 := bw_tr HW1.out hb2
            have cK2 := (HSr.out.below hw2).c3
            have HB2 := Lib.hid (HB.out.trans (hw2.mono HB.out.size))
            have HBF := Lib.hid (HBOX.out.trans ((HB.out.mono HBOX.out.size).trans (hw2.mono (Nat.le_trans HBOX.out.size HB.out.size))))
            clear cop hb2 hw2
            generalize bsl (kindOfB op) = kt at *
            have HKL := Lib.hid hkl
            clear hkl
            by_cases hkt : kindOfB op = trapB
            · have ft : (kt.toList == [116, 114, 97, 112]) = true := by rw [HKL.out, hkt]; rfl
              have hbad : okAt l.length j ⟨op, s, t, d, m⟩ = false := by
                unfold okAt
                rw [hie]; simp [hkt]
              have HR4 : Hid (regErr l = 4) := Lib.hid (HBAD.out hbad)
              clear hbad
              clear hie hkt
              go_wp2
              go_ret
              exact ⟨by rw [HR4.out]; rfl, HBF.out⟩
            · have ft : (kt.toList == [116, 114, 97, 112]) = false := by rw [HKL.out]; exact beq_eq_false_iff_ne.2 hkt
              by_cases hkb : kindOfB op = branchB
              · have fb : (kt.toList == [98, 114, 97, 110, 99, 104]) = true := by rw [HKL.out, hkb]; rfl
                have fs : (kt.toList == [115, 116, 111, 114, 101]) = false := by rw [HKL.out, hkb]; rfl
                by_cases hpl : j + 2 = l.length
                · have fp : ((j : Int) != (l.length : Int) - 2) = false := by simp only [bne_eq_false_iff_eq]; omega
                  have hok : okAt l.length j ⟨op, s, t, d, m⟩ = true := by
                    unfold okAt
                    rw [hie]
                    simp [hkt, hkb, hpl]
                  have HA2 := Lib.hid (HOKJ.out hok)
                  have HT2 : Hid ((storesN (l.take (j + 1)) : Int) = (S0 : Int)) := by
                    refine Lib.hid ?_
                    have := HT.out
                    rw [if_neg (by rw [hkb]; decide)] at this
                    omega
                  clear hie hkt hkb hpl hok
                  go_wp2
                  refine ⟨⟨j + 1, by have := HJ.out; omega, rfl, by rw [HT2.out], by go_num, HB2, HA2⟩, ?_⟩
                  simp [intOf]
                  have := HJ.out
                  omega
                · have fp : ((j : Int) != (l.length : Int) - 2) = true := by simp only [bne_iff_ne, ne_eq]; omega
                  have hbad : okAt l.length j ⟨op, s, t, d, m⟩ = false := by
                    unfold okAt
                    rw [hie]; simp [hkt, hkb, hpl]
                  have HR4 : Hid (regErr l = 4) := Lib.hid (HBAD.out hbad)
                  clear hbad
                  clear hie hkt hkb hpl
                  go_wp2
                  go_ret
                  exact ⟨by rw [HR4.out]; rfl, HBF.out⟩
              · have fb : (kt.toList == [98, 114, 97, 110, 99, 104]) = false := by rw [HKL.out]; exact beq_eq_false_iff_ne.2 hkb
                have hok : okAt l.length j ⟨op, s, t, d, m⟩ = true := by
                  unfold okAt
                  rw [hie]
                  simp [hkt, hkb]
                have HA2 := Lib.hid (HOKJ.out hok)
                by_cases hks : kindOfB op = storeB
                · have fs : (kt.toList == [115, 116, 111, 114, 101]) = true := by rw [HKL.out, hks]; rfl
                  have HT2 : Hid ((storesN (l.take (j + 1)) : Int) = (S0 : Int) + 1) := by
                    refine Lib.hid ?_
                    have := HT.out
                    rw [if_pos hks] at this
                    omega
                  clear hie hkt hkb hks hok
                  go_wp2
                  refine ⟨⟨j + 1, by have := HJ.out; omega, rfl, by rw [HT2.out], by go_num, HB2, HA2⟩, ?_⟩
                  simp [intOf]
                  have := HJ.out
                  omega
                · have fs : (kt.toList == [115, 116, 111, 114, 101]) = false := by rw [HKL.out]; exact beq_eq_false_iff_ne.2 hks
                  have HT2 : Hid ((storesN (l.take (j + 1)) : Int) = (S0 : Int)) := by
                    refine Lib.hid ?_
                    have := HT.out
                    rw [if_neg hks] at this
                    omega
                  clear hie hkt hkb hks hok
                  go_wp2
                  refine ⟨⟨j + 1, by have := HJ.out; omega, rfl, by rw [HT2.out], by go_num, HB2, HA2⟩, ?_⟩
                  simp [intOf]
                  have := HJ.out
                  omega
        · have he : j = l.length := by omega
          subst he
          have hall : ∀ k (h : k < l.length), okAt l.length k l[k] = true := fun k hk => HA.out k hk hk
          have HRE := Lib.hid (regErr_ok HN.out HB24.out hall)
          rw [List.take_length] at hs0 hs1 ⊢
          have cK3 := (HS0.out.below HB.out).c3
          have HBF := Lib.hid (HBOX.out.trans (HB.out.mono HBOX.out.size))
          clear hall
          by_cases h8 : storesN l ≤ 8
          · have h8I : (storesN l : Int) ≤ 8 := by omega
            rw [if_pos h8] at HRE
            clear h8
            go_wp2
            go_ret
            exact ⟨by rw [HRE.out]; rfl, HBF.out⟩
          · have h8I : (8 : Int) < (storesN l : Int) := by omega
            rw [if_neg h8] at HRE
            clear h8
            go_wp2
            go_ret
            exact ⟨by rw [HRE.out]; rfl, HBF.out⟩
end Go.Proofs.YtlnefmgiiogcmaaGreatDoor
namespace Go.Proofs.YtlnefmgiiogcmaaGreatDoor
open Go.RowKit
set_option maxHeartbeats 4000000
section
variable {w0 w : World} {lb : Nat} {pc : Int} {n : Nat} {ov : Value} {ops : List OpN}
theorem adds_after {f : Nat} {args : Array Value} {w1 wx : World} {ops' : List OpN} (hb : Below w1.heap.size w1 wx) (h : Calls Tryz.prog f args wx fun e w' => Adds w0 wx lb pc n ops' e w') :
    Calls Tryz.prog f args wx fun e w' => Adds w0 w1 lb pc n ops' e w' := h.mono fun _ _ ⟨e, k, o, l⟩ => ⟨e, (KeptT.of_below hb).trans k, o, l⟩
theorem setOp_len (d : Nat) (v : Int) (n : Nat) : (setOp d v n).length ≤ 1 := by unfold setOp; split <;> simp
theorem sums19 (h : LwW w0 w lb pc n ov ops) (hl : ops.length < 900) (s t d : Nat) (m : Int) (hm0 : 0 ≤ m) (hm1 : m < 65536) :
    Calls Tryz.prog 42 #[.pointer (some ⟨lb, 0, none⟩), insA 19 s t d m, .int .u32 (wideS m)] w fun e w' => Adds w0 w lb pc n (ops ++ lowIns 19 s t d m n) e w' := by
  have HLN := Lib.hid hl
  have HF : InsB (boxW w 19 s t d m) w.heap.size 19 s t d m := Five.new w _ _ _ _ _ _
  have HD := Lib.hid (do_any (h.box 19 s t d m) (by omega) .overP 0 s (t : Int) 0)
  obtain ⟨im, him⟩ : ∃ im, wideS m = im := ⟨_, rfl⟩
  rw [him]
  have HIM := Lib.hid him
  clear him
  clear h hl
  go_enter Tryz.func42, Tryz.ntmps42
  go_wp2_with fail
  refine HD.out.mono ?_
  rintro e w1 ⟨rfl, hK, ov1, hL⟩
  have HF1 := HF.kept hK
  obtain ⟨c0, c1, c2, c3, c4⟩ := Five.cells HF1
  have HK := Lib.hid hK
  have HD2 := Lib.hid (sum_any hL (by rw [List.length_append]; have := HLN.out; simp; omega) .add d s t)
  clear hL hK HF1
  go_wp2_with fail
  refine HD2.out.mono ?_
  rintro e w2 ⟨rfl, hK, ov2, hL⟩
  have HL2 := Lib.hid hL
  have HK2 := Lib.hid hK
  clear hL hK
  go_wp2
  go_end0
  exact ⟨rfl, boxW.kept (HK.out.trans HK2.out), ov2, by have := HL2.out; rw [List.append_assoc] at this; exact this⟩
theorem sums21 (h : LwW w0 w lb pc n ov ops) (hl : ops.length < 900) (s t d : Nat) (m : Int) (hm0 : 0 ≤ m) (hm1 : m < 65536) :
    Calls Tryz.prog 42 #[.pointer (some ⟨lb, 0, none⟩), insA 21 s t d m, .int .u32 (wideS m)] w fun e w' => Adds w0 w lb pc n (ops ++ lowIns 21 s t d m n) e w' := by
  have HLN := Lib.hid hl
  have HF : InsB (boxW w 21 s t d m) w.heap.size 21 s t d m := Five.new w _ _ _ _ _ _
  have HD := Lib.hid (do_any (h.box 21 s t d m) (by omega) .overM 0 s (t : Int) 0)
  obtain ⟨im, him⟩ : ∃ im, wideS m = im := ⟨_, rfl⟩
  rw [him]
  have HIM := Lib.hid him
  clear him
  clear h hl
  go_enter Tryz.func42, Tryz.ntmps42
  go_wp2_with fail
  refine HD.out.mono ?_
  rintro e w1 ⟨rfl, hK, ov1, hL⟩
  have HF1 := HF.kept hK
  obtain ⟨c0, c1, c2, c3, c4⟩ := Five.cells HF1
  have HK := Lib.hid hK
  have HD2 := Lib.hid (sum_any hL (by rw [List.length_append]; have := HLN.out; simp; omega) .sub d s t)
  clear hL hK HF1
  go_wp2_with fail
  refine HD2.out.mono ?_
  rintro e w2 ⟨rfl, hK, ov2, hL⟩
  have HL2 := Lib.hid hL
  have HK2 := Lib.hid hK
  clear hL hK
  go_wp2
  go_end0
  exact ⟨rfl, boxW.kept (HK.out.trans HK2.out), ov2, by have := HL2.out; rw [List.append_assoc] at this; exact this⟩
theorem sums11 (h : LwW w0 w lb pc n ov ops) (hl : ops.length < 900) (s t d : Nat) (m : Int) (hm0 : 0 ≤ m) (hm1 : m < 65536) :
    Calls Tryz.prog 42 #[.pointer (some ⟨lb, 0, none⟩), insA 11 s t d m, .int .u32 (wideS m)] w fun e w' => Adds w0 w lb pc n (ops ++ lowIns 11 s t d m n) e w' := by
  have HD := Lib.hid (long11 (h.box 11 s t d m) (by omega) s t d m)
  obtain ⟨im, him⟩ : ∃ im, wideS m = im := ⟨_, rfl⟩
  rw [him]
  have HIM := Lib.hid him
  clear him
  clear h hl
  go_enter Tryz.func42, Tryz.ntmps42
  go_wp2_with fail
  refine HD.out.mono ?_
  rintro e w1 ⟨rfl, hK, ov1, hL⟩
  have HL2 := Lib.hid hL
  have HK2 := Lib.hid hK
  clear hL hK
  go_wp2
  go_end0
  exact ⟨rfl, boxW.kept HK2.out, ov1, HL2.out⟩
theorem sums12 (h : LwW w0 w lb pc n ov ops) (hl : ops.length < 900) (s t d : Nat) (m : Int) (hm0 : 0 ≤ m) (hm1 : m < 65536) :
    Calls Tryz.prog 42 #[.pointer (some ⟨lb, 0, none⟩), insA 12 s t d m, .int .u32 (wideS m)] w fun e w' => Adds w0 w lb pc n (ops ++ lowIns 12 s t d m n) e w' := by
  have HD := Lib.hid (long12 (h.box 12 s t d m) (by omega) s t d m)
  obtain ⟨im, him⟩ : ∃ im, wideS m = im := ⟨_, rfl⟩
  rw [him]
  have HIM := Lib.hid him
  clear him
  clear h hl
  go_enter Tryz.func42, Tryz.ntmps42
  go_wp2_with fail
  refine HD.out.mono ?_
  rintro e w1 ⟨rfl, hK, ov1, hL⟩
  have HL2 := Lib.hid hL
  have HK2 := Lib.hid hK
  clear hL hK
  go_wp2
  go_end0
  exact ⟨rfl, boxW.kept HK2.out, ov1, HL2.out⟩
theorem sums13 (h : LwW w0 w lb pc n ov ops) (hl : ops.length < 900) (s t d : Nat) (m : Int) (hm0 : 0 ≤ m) (hm1 : m < 65536) :
    Calls Tryz.prog 42 #[.pointer (some ⟨lb, 0, none⟩), insA 13 s t d m, .int .u32 (wideS m)] w fun e w' => Adds w0 w lb pc n (ops ++ lowIns 13 s t d m n) e w' := by
  have HD := Lib.hid (long13 (h.box 13 s t d m) (by omega) s t d m)
  obtain ⟨im, him⟩ : ∃ im, wideS m = im := ⟨_, rfl⟩
  rw [him]
  have HIM := Lib.hid him
  clear him
  clear h hl
  go_enter Tryz.func42, Tryz.ntmps42
  go_wp2_with fail
  refine HD.out.mono ?_
  rintro e w1 ⟨rfl, hK, ov1, hL⟩
  have HL2 := Lib.hid hL
  have HK2 := Lib.hid hK
  clear hL hK
  go_wp2
  go_end0
  exact ⟨rfl, boxW.kept HK2.out, ov1, HL2.out⟩
theorem sums14 (h : LwW w0 w lb pc n ov ops) (hl : ops.length < 900) (s t d : Nat) (m : Int) (hm0 : 0 ≤ m) (hm1 : m < 65536) :
    Calls Tryz.prog 42 #[.pointer (some ⟨lb, 0, none⟩), insA 14 s t d m, .int .u32 (wideS m)] w fun e w' => Adds w0 w lb pc n (ops ++ lowIns 14 s t d m n) e w' := by
  have HD := Lib.hid (long14 (h.box 14 s t d m) (by omega) s t d m)
  obtain ⟨im, him⟩ : ∃ im, wideS m = im := ⟨_, rfl⟩
  rw [him]
  have HIM := Lib.hid him
  clear him
  clear h hl
  go_enter Tryz.func42, Tryz.ntmps42
  go_wp2_with fail
  refine HD.out.mono ?_
  rintro e w1 ⟨rfl, hK, ov1, hL⟩
  have HL2 := Lib.hid hL
  have HK2 := Lib.hid hK
  clear hL hK
  go_wp2
  go_end0
  exact ⟨rfl, boxW.kept HK2.out, ov1, HL2.out⟩
theorem sums15 (h : LwW w0 w lb pc n ov ops) (hl : ops.length < 900) (s t d : Nat) (m : Int) (hm0 : 0 ≤ m) (hm1 : m < 65536) :
    Calls Tryz.prog 42 #[.pointer (some ⟨lb, 0, none⟩), insA 15 s t d m, .int .u32 (wideS m)] w fun e w' => Adds w0 w lb pc n (ops ++ lowIns 15 s t d m n) e w' := by
  have HD := Lib.hid (long15 (h.box 15 s t d m) (by omega) s t d m)
  obtain ⟨im, him⟩ : ∃ im, wideS m = im := ⟨_, rfl⟩
  rw [him]
  have HIM := Lib.hid him
  clear him
  clear h hl
  go_enter Tryz.func42, Tryz.ntmps42
  go_wp2_with fail
  refine HD.out.mono ?_
  rintro e w1 ⟨rfl, hK, ov1, hL⟩
  have HL2 := Lib.hid hL
  have HK2 := Lib.hid hK
  clear hL hK
  go_wp2
  go_end0
  exact ⟨rfl, boxW.kept HK2.out, ov1, HL2.out⟩
theorem sums16 (h : LwW w0 w lb pc n ov ops) (hl : ops.length < 900) (s t d : Nat) (m : Int) (hm0 : 0 ≤ m) (hm1 : m < 65536) :
    Calls Tryz.prog 42 #[.pointer (some ⟨lb, 0, none⟩), insA 16 s t d m, .int .u32 (wideS m)] w fun e w' => Adds w0 w lb pc n (ops ++ lowIns 16 s t d m n) e w' := by
  have HD := Lib.hid (long16 (h.box 16 s t d m) (by omega) s t d m)
  obtain ⟨im, him⟩ : ∃ im, wideS m = im := ⟨_, rfl⟩
  rw [him]
  have HIM := Lib.hid him
  clear him
  clear h hl
  go_enter Tryz.func42, Tryz.ntmps42
  go_wp2_with fail
  refine HD.out.mono ?_
  rintro e w1 ⟨rfl, hK, ov1, hL⟩
  have HL2 := Lib.hid hL
  have HK2 := Lib.hid hK
  clear hL hK
  go_wp2
  go_end0
  exact ⟨rfl, boxW.kept HK2.out, ov1, HL2.out⟩
theorem sums17 (h : LwW w0 w lb pc n ov ops) (hl : ops.length < 900) (s t d : Nat) (m : Int) (hm0 : 0 ≤ m) (hm1 : m < 65536) :
    Calls Tryz.prog 42 #[.pointer (some ⟨lb, 0, none⟩), insA 17 s t d m, .int .u32 (wideS m)] w fun e w' => Adds w0 w lb pc n (ops ++ lowIns 17 s t d m n) e w' := by
  have HD := Lib.hid (long17 (h.box 17 s t d m) (by omega) s t d m)
  obtain ⟨im, him⟩ : ∃ im, wideS m = im := ⟨_, rfl⟩
  rw [him]
  have HIM := Lib.hid him
  clear him
  clear h hl
  go_enter Tryz.func42, Tryz.ntmps42
  go_wp2_with fail
  refine HD.out.mono ?_
  rintro e w1 ⟨rfl, hK, ov1, hL⟩
  have HL2 := Lib.hid hL
  have HK2 := Lib.hid hK
  clear hL hK
  go_wp2
  go_end0
  exact ⟨rfl, boxW.kept HK2.out, ov1, HL2.out⟩
theorem sums18 (h : LwW w0 w lb pc n ov ops) (hl : ops.length < 900) (s t d : Nat) (m : Int) (hm0 : 0 ≤ m) (hm1 : m < 65536) :
    Calls Tryz.prog 42 #[.pointer (some ⟨lb, 0, none⟩), insA 18 s t d m, .int .u32 (wideS m)] w fun e w' => Adds w0 w lb pc n (ops ++ lowIns 18 s t d m n) e w' := by
  have HD := Lib.hid (long18 (h.box 18 s t d m) (by omega) s t d m)
  obtain ⟨im, him⟩ : ∃ im, wideS m = im := ⟨_, rfl⟩
  rw [him]
  have HIM := Lib.hid him
  clear him
  clear h hl
  go_enter Tryz.func42, Tryz.ntmps42
  go_wp2_with fail
  refine HD.out.mono ?_
  rintro e w1 ⟨rfl, hK, ov1, hL⟩
  have HL2 := Lib.hid hL
  have HK2 := Lib.hid hK
  clear hL hK
  go_wp2
  go_end0
  exact ⟨rfl, boxW.kept HK2.out, ov1, HL2.out⟩
end
end Go.Proofs.YtlnefmgiiogcmaaGreatDoor
