/- The walk of asm.Text: an instruction's text; "" and Encode's error where it has none. Conditions: the numbers fit their kinds; the table of powers and the errors' variables read as they were laid. -/
import Derived.Test.YtnppegldebocmaaGreatDoorOpd
import Derived.Test.YtnppegldebocmaaGreatDoorBackP
import Derived.WalkSmall
namespace Go.Proofs.YtnppegldebocmaaGreatDoor
open Go.RowKit
set_option linter.unusedVariables false
def opLetters : List UInt8 := [83, 84, 68, 110, 109, 97, 117, 106]
theorem operand_any (i : InsN) (hi : i.Fits) (c : UInt8) (hc : c ∈ opLetters) (hm : c = 110 ∨ c = 109 → i.imm < 65536) (w : World) (hP : Pow w) :
    Calls Tryz.prog 27 #[insV i, .int .i32 (c.toNat : Int)] w fun e w' => e = .returned (.string (bsl (opdB i c))) ∧ Below w.heap.size w w' := by
  have h36 : ∀ l, (⟨#[36]⟩ : ByteArray) ++ bsl l = bsl (36 :: l) := fun l => bsl_app [36] l
  unfold opLetters at hc
  simp only [List.mem_cons, List.not_mem_nil, or_false] at hc
  rcases hc with rfl | rfl | rfl | rfl | rfl | rfl | rfl | rfl
  · exact (opd_reg i hi w hP 83 i.s (Or.inl ⟨rfl, rfl⟩)).mono fun e w' h => ⟨by rw [h.1, h36]; rfl, h.2⟩
  · exact (opd_reg i hi w hP 84 i.t (Or.inr (Or.inl ⟨rfl, rfl⟩))).mono fun e w' h => ⟨by rw [h.1, h36]; rfl, h.2⟩
  · exact (opd_reg i hi w hP 68 i.d (Or.inr (Or.inr ⟨rfl, rfl⟩))).mono fun e w' h => ⟨by rw [h.1, h36]; rfl, h.2⟩
  · exact opd_num i w hP hi.m0 (hm (Or.inl rfl))
  · refine (opd_mem i w hP hi.m0 (hm (Or.inr rfl)) hi.s0 hi.s1).mono fun e w' h => ⟨?_, h.2⟩
    rw [h.1]
    have e : bsl (Lib.itoa (immS i.imm)) ++ ⟨#[40, 36]⟩ ++ bsl (Lib.itoa i.s) ++ ⟨#[41]⟩ = bsl (Lib.itoa (immS i.imm) ++ [40, 36] ++ Lib.itoa i.s ++ [41]) := by
      rw [← bsl_app, ← bsl_app, ← bsl_app]; rfl
    rw [e]
    simp [opdB]
  · exact opd_imm i w hP hi.m0 hi.m1 97 (Or.inl rfl)
  · exact opd_imm i w hP hi.m0 hi.m1 117 (Or.inr (Or.inl rfl))
  · exact opd_imm i w hP hi.m0 hi.m1 106 (Or.inr (Or.inr rfl))
/-- The two errors that Encode knows lie in their variables. -/
structure Two (w : World) (ad : Nat → Addr) : Prop where
  c1 : w.cell? ⟨5, 0, none⟩ = some (.iface 214 (.pointer (some (ad 1))))
  c3 : w.cell? ⟨4, 0, none⟩ = some (.iface 214 (.pointer (some (ad 3))))
theorem Two.below {w w' : World} {ad : Nat → Addr} (h : Two w ad) (hb : Below w.heap.size w w') : Two w' ad :=
  ⟨(hb.cell (World.block_lt_of_cell? w _ h.c1)).trans h.c1, (hb.cell (World.block_lt_of_cell? w _ h.c3)).trans h.c3⟩
theorem Sents.two {w : World} {ad : Nat → Addr} (h : Sents w ad) : Two w ad := ⟨h.c1, h.c3⟩
theorem bsl_list (l : List UInt8) : (bsl l).toList = l := by
  exact ByteArray.toList_mk l
theorem own_below {w w' : World} {base : Nat} {e : TypeId} {size : Nat} {v : Value} {n : Nat} {xs : List Value} (h : w.ownsRow base e size v n xs) (hb : Below w.heap.size w w') : w'.ownsRow base e size v n xs := by
  obtain ⟨hl, h | ⟨g, cap, cur, hv, hg, hh, r⟩⟩ := h
  · exact ⟨hl, .inl h⟩
  · have hg2 : g < w.heap.size := (Array.getElem?_eq_some_iff.1 hh).1
    exact ⟨hl, .inr ⟨g, cap, cur, hv, hg, by rw [hb.block g hg2]; exact hh, r⟩⟩
theorem Tryz.infoS : (Tryz.prog.info? 9).map (fun i => (i.zero, i.size, i.bytes)) = some (some (.string ByteArray.empty), 1, 16) := by kernel_rfl
/-- What the walk of Text knows of a world. -/
structure TextW (w wr : World) (i : InsN) (B : Nat) : Prop where
  ins : Five wr w.heap.size 24 (.int .i64 i.op) (.int .i64 i.s) (.int .i64 i.t) (.int .i64 i.d) (.int .u32 i.imm)
  below : Below w.heap.size w wr
  lo : w.heap.size < B
  hi : B < wr.heap.size
theorem TextW.trans {w wr w' : World} {i : InsN} {B : Nat} (h : TextW w wr i B) (hb : Below wr.heap.size wr w') : TextW w w' i B :=
  ⟨h.ins.below hb h.ins.lt, h.below.trans (hb.mono h.below.size), h.lo, Nat.lt_of_lt_of_le h.hi hb.size⟩
theorem TextW.grown {w wr w' : World} {i : InsN} {B : Nat} {row : Option Nat} (h : TextW w wr i B) (hg : wr.grownBy w' row) (hr : ∀ k, row = some k → B < k) : TextW w w' i B := by
  have hl := h.lo
  refine ⟨h.ins.of_block (hg.block w.heap.size h.ins.lt ?_), h.below.grown hg h.below.size (fun k e => by have := hr k e; omega), h.lo, Nat.lt_of_lt_of_le h.hi hg.size⟩
  intro e
  have := hr _ e.symm
  omega
theorem TextW.iterAt {w wr : World} {i : InsN} {B : Nat} (h : TextW w wr i B) (s : ByteArray) (p : Nat) : TextW w (wr.iterAt B s p) i B :=
  ⟨h.ins.iterAt (Nat.ne_of_lt h.lo) s p, Lib.below_iterAt h.below (Nat.le_of_lt h.lo) s p, h.lo, by have := h.hi; simpa [World.iterAt] using this⟩
theorem order_all2 : ((List.range 54).all fun k => decide ((orderB k).length ≤ 3) && (orderB k).all (fun c => opLetters.contains c) && decide ((nameB k).length ≤ 10) && ((!(orderB k).contains 110 && !(orderB k).contains 109) || (fieldsB k).contains 105)) = true := by decide +kernel
theorem order_facts (k : Nat) (hk : k < 54) : (orderB k).length ≤ 3 ∧ (∀ c ∈ orderB k, c ∈ opLetters) ∧ (nameB k).length ≤ 10 ∧ ((110 : UInt8) ∈ orderB k ∨ (109 : UInt8) ∈ orderB k → (fieldsB k).contains 105 = true) := by
  have a := List.all_eq_true.1 order_all2 k (List.mem_range.2 hk)
  simp only [Bool.and_eq_true, Bool.or_eq_true, decide_eq_true_eq, Bool.not_eq_true'] at a
  obtain ⟨⟨⟨a1, a2⟩, a3⟩, a4⟩ := a
  refine ⟨a1, fun c hc => List.contains_iff_mem.1 (List.all_eq_true.1 a2 c hc), a3, fun h => ?_⟩
  rcases a4 with ⟨b1, b2⟩ | b
  · rcases h with h | h
    · rw [List.contains_iff_mem.2 h] at b1; cases b1
    · rw [List.contains_iff_mem.2 h] at b2; cases b2
  · exact b
theorem letters_small (c : UInt8) (h : c ∈ opLetters) : c.toNat < 128 := by
  unfold opLetters at h
  simp only [List.mem_cons, List.not_mem_nil, or_false] at h
  rcases h with rfl | rfl | rfl | rfl | rfl | rfl | rfl | rfl <;> decide
theorem name_any (n : Int) (w : World) : Calls Tryz.prog 28 #[.int .i64 n] w fun e w' => e = .returned (.string (nameS n)) ∧ Below w.heap.size w w' := by
  have hfd : ∀ w : World, (Instr.field 81 (.agg #[.string (nameS n), .int .u32 (majorZ n), .int .u32 (minorZ n), .string (fieldsS n), .string (kindS n)]) 0).run Tryz.prog w = .ok (.string (nameS n)) w := fun _ => by kernel_rfl
  go_enter Tryz.func28, Tryz.ntmps28
  go_wp2_with (go_at_call 42; refine (of_agg _ _).mono ?_; rintro e w1 ⟨rfl, hb1⟩)
  go_ret
  exact ⟨rfl, hb1⟩
theorem opd_len (i : InsN) (hi : i.Fits) (c : UInt8) : (opdB i c).length ≤ 50 := by
  obtain ⟨o0, o1, s0, s1, t0, t1, d0, d1, m0, m1⟩ := hi
  have a := Lib.itoa_length_le i.s s0 s1
  have b := Lib.itoa_length_le i.t t0 t1
  have d := Lib.itoa_length_le i.d d0 d1
  have e := Lib.itoa_length_le i.imm (by omega) (by omega)
  have f := Lib.itoa_length_le (immS i.imm) (by unfold immS; split <;> omega) (by unfold immS; split <;> omega)
  unfold opdB
  repeat' split
  all_goals simp
  all_goals omega
theorem join_small (xs : List (List UInt8)) (h : xs.length ≤ 3) (h2 : ∀ y ∈ xs, y.length ≤ 50) : (Lib.join xs [44, 32]).length ≤ 200 := by
  match xs, h with
  | [], _ => simp [Lib.join_nil]
  | [a], _ =>
    have := h2 a (by simp)
    rw [Lib.join_one]; omega
  | [a, b], _ =>
    have h3 := h2 a (by simp); have h4 := h2 b (by simp)
    rw [Lib.join_cons]; simp [Lib.joinTail]; omega
  | [a, b, c], _ =>
    have h3 := h2 a (by simp); have h4 := h2 b (by simp); have h5 := h2 c (by simp)
    rw [Lib.join_cons]; simp [Lib.joinTail]; omega
abbrev encO (i : InsN) (c : UInt8) : Value := .string (bsl (opdB i c))
set_option maxHeartbeats 2000000 in
theorem text_good (i : InsN) (hi : i.Fits) (k : Nat) (h1 : 1 ≤ k) (hk : k < 54) (hop : i.op = (k : Int)) (hg : encBad i = false) (ad : Nat → Addr) (w : World) (hS : Two w ad) (hP : Pow w) :
    Calls Tryz.prog 8 #[insV i] w fun e w' => e = .returned (.tuple #[.string (bsl (textB i)), .nilIface]) ∧ Below w.heap.size w w' := by
  obtain ⟨i0, hie, hz0, hz1, hz2⟩ := info_parts Tryz.infoS
  have hn : (nameS i.op).toList.isEmpty = false := by rw [hop]; exact name_full k h1 hk
  have HE : Hid (∀ w, Two w ad → Calls Tryz.prog 25 #[insV i] w fun en w' => en = .returned (.tuple #[.int .u32 (encL i (fieldsB i.op.toNat)), .nilIface]) ∧ Below w.heap.size w w') :=
    fun w hS => (encode_some i hi hn _ _ w hS.c3 hS.c1).mono fun en w' h => ⟨by rw [h.1, encRes_good hg], h.2⟩
  obtain ⟨ol, oL, nl, o105⟩ := order_facts k hk
  have himm : ∀ c ∈ orderB k, (c = 110 ∨ c = 109 → i.imm < 65536) := by
    intro c hc hcc
    have hmm := (good_wells i k hop hi.m0 hg).2.2.2
    have h105 := o105 (by rcases hcc with rfl | rfl; exact Or.inl hc; exact Or.inr hc)
    have hno : (fieldsB k).contains 106 = false := by
      rcases fields_cases k with e | e | e | e | e | e | e | e | e | e | e | e <;> rw [e] at h105 ⊢ <;> first | rfl | (exact absurd h105 (by decide))
    unfold mostZ at hmm
    rw [hno, h105] at hmm
    simp at hmm
    omega
  have HIM := Lib.hid himm
  have HO := Lib.hid (fun W => order_any k h1 hk W)
  rw [← hop] at HO
  have HP := Lib.hid hP
  have HOP := Lib.hid hop
  have HI := Lib.hid hi
  have HOL := Lib.hid oL
  have HFIN : Hid (textB i = nameB k ++ tailB i k) := by
    show _ = _
    unfold textB
    rw [hop, Int.toNat_natCast]
  have HLEN := Lib.hid (fun c => opd_len i hi c)
  have zn : (nameS i.op).size ≤ 10 := by
    unfold nameS
    rw [bsl_size, hop, Int.toNat_natCast]
    exact nl
  have zn2 : (nameS i.op ++ ⟨#[32]⟩).size ≤ 11 := by
    rw [ByteArray.size_append]
    have : (⟨#[32]⟩ : ByteArray).size = 1 := rfl
    omega
  clear hop hi hg hn himm oL hP
  generalize hL : orderB k = L at *
  have HL := Lib.hid hL
  clear hL
  go_enter Tryz.func8, Tryz.ntmps8
  go_wp2_with fail
  have hb0 : Below w.heap.size w (w.alloc (.cells #[.int .i64 i.op, .int .i64 i.s, .int .i64 i.t, .int .i64 i.d, .int .u32 i.imm] 24)) := (Below.refl _ _).alloc (Nat.le_refl _) _
  have hF := Five.new w (.int .i64 i.op) (.int .i64 i.s) (.int .i64 i.t) (.int .i64 i.d) (.int .u32 i.imm) 24
  refine (HE.out _ (hS.below hb0)).mono ?_
  rintro e w1 ⟨rfl, hb1⟩
  have hF1 := hF.below hb1 hF.lt
  have hB1 := hb0.trans (hb1.mono hb0.size)
  clear hb0 hF hb1 hS
  obtain ⟨c0, c1, c2, c3, c4⟩ := hF1.cells
  go_wp2_with fail
  refine (HO.out _).mono ?_
  rintro e w2 ⟨rfl, hb2⟩
  have hF2 := hF1.below hb2 hF1.lt
  have hB2 := hB1.trans (hb2.mono hB1.size)
  clear c0 c1 c2 c3 c4 hF1 hB1 hb2
  go_wp2_with fail
  have HI0 : Hid ((w2.iter (bsl L) 0).heap[w2.heap.size]? = some (.stringIter (bsl L) 0)) := iter_new _ _ _ _ rfl
  have HT : TextW w (w2.iter (bsl L) 0) i w2.heap.size := ⟨hF2.below (below_iter (Below.refl w2.heap.size w2) (Nat.le_refl _) _ _) hF2.lt, below_iter hB2 hB2.size _ _, hF2.lt, by simp [World.iter]⟩
  clear hF2 hB2
  generalize w2.iter (bsl L) 0 = w3 at *
  generalize w2.heap.size = B at *
  go_loopw [6] (fun v wr => ∃ j : Nat, j ≤ L.length ∧ Hid (wr.heap[B]? = some (.stringIter (bsl L) j)) ∧ wr.ownsRow (B + 1) 9 1 v j ((L.take j).map (encO i)) ∧ TextW w wr i B) (fun _ wr => L.length - wr.iterPos B)
  case atStart => exact ⟨0, Nat.zero_le _, HI0, World.ownsRow_nil _ _ _ _, HT⟩
  case round =>
    obtain ⟨j, hj, hit, hown, HTr⟩ := hrel
    by_cases hlt : j < L.length
    · have hc : L[j]? = some L[j] := List.getElem?_eq_getElem hlt
      have HMEM := Lib.hid (List.getElem_mem hlt)
      generalize L[j] = y at hc HMEM
      have HS := Lib.hid (take_succ_of L j y hc)
      have hnx : ∀ ty, (Instr.next (.pointer (some ⟨B, 0, none⟩)) true ty).run Tryz.prog wr = _ := fun ty => next_lit_at (P := Tryz.prog) wr B L j ty y (y.toNat : Int) hit.out hc rfl (letters_small y (HOL.out y HMEM.out))
      clear hc
      have HT2 := HTr.iterAt (bsl L) (j + 1)
      have hown2 := ownsRow_iterAt hown (Nat.lt_succ_self B) (bsl L) (j + 1)
      have hit2 : Hid ((wr.iterAt B (bsl L) (j + 1)).heap[B]? = some (.stringIter (bsl L) (j + 1))) := Lib.iterAt_heap wr B _ j _ hit.out
      have HM := Lib.hid (iterPos_of hit.out)
      obtain ⟨c0, c1, c2, c3, c4⟩ := HT2.ins.cells
      clear hown HTr hit
      go_wp2_with fail
      refine (operand_any i HI.out y (HOL.out y HMEM.out) (HIM.out y HMEM.out) _ (HP.out.below HT2.below)).mono ?_
      rintro e w5 ⟨rfl, hb5⟩
      have HT5 := HT2.trans hb5
      have hown5 := own_below hown2 hb5
      have hit5 : Hid (w5.heap[B]? = some (.stringIter (bsl L) (j + 1))) := (hb5.block B HT2.hi).trans hit2.out
      have hlB := HT5.hi
      clear hown2 hit2 hb5 hnx c0 c1 c2 c3 c4 HT2
      go_wp2_with (at_builtin; refine wpList_append_own _ rfl _ _ 40 rfl (B + 1) 9 i0 (.string ByteArray.empty) 1 16 Tryz.underlying40 hie hz0 hz1 hz2 rfl (by decide) _ _ _ rfl (hown5.alloc _) ⟨w5.heap.size, 0, none⟩ 1 1 [encO i y] rfl rfl (cell_one_new _ _ _) (fun x hx => by simp at hx; subst hx; rfl) (by unfold maxLen; omega) (by omega) (by simp; omega) ?_)
      intro v' w6 hown6 hgrow6 _
      have HT6 := (HT5.trans ((Below.refl w5.heap.size w5).alloc (Nat.le_refl _) (.cells #[encO i y] 9))).grown hgrow6 (fun q hq => by have := (hown5.lt q hq).1; omega)
      have hit6 : Hid (w6.heap[B]? = some (.stringIter (bsl L) (j + 1))) := by
        refine (hgrow6.block B (by simp; omega) (fun e => by have := (hown5.lt B e.symm).1; omega)).trans ?_
        exact (((Below.refl w5.heap.size w5).alloc (Nat.le_refl _) (.cells #[encO i y] 9)).block B HT5.hi).trans hit5.out
      have hown7 : w6.ownsRow (B + 1) 9 1 v' (j + 1) ((L.take (j + 1)).map (encO i)) := by
        rw [HS.out, List.map_append, List.map_take]
        exact hown6
      clear hown6 hgrow6 hown5 hit5 HT5 hlB
      go_wp2
      go_roundw
      case rel => exact ⟨j + 1, by omega, hit6, hown7, HT6⟩
      case measure => rw [iterPos_of hit6.out, HM.out]; omega
    · have hjL : j = L.length := by omega
      subst hjL
      have hnx : ∀ ty, (Instr.next (.pointer (some ⟨B, 0, none⟩)) true ty).run Tryz.prog wr = _ := fun ty => next_fin_at (P := Tryz.prog) wr B L L.length ty hit.out (by omega)
      rw [List.take_length] at hown
      obtain ⟨c0, c1, c2, c3, c4⟩ := HTr.ins.cells
      have HH := Lib.hid HTr
      have HW := Lib.hid hown
      have HNX := Lib.hid hit
      clear HTr hit
      by_cases hz : L.length = 0
      · have HZ := Lib.hid hz
        rw [hz] at hown
        have hl0 : L = [] := List.eq_nil_of_length_eq_zero hz
        have hfin : nameS i.op = bsl (textB i) := by
          rw [HFIN.out]
          unfold tailB nameS
          rw [HL.out, hl0, if_pos rfl, List.append_nil, HOP.out, Int.toNat_natCast]
        have HFI := Lib.hid hfin
        clear hfin
        rcases Joins.ownsRow_forms hown with ⟨rfl, _⟩ | ⟨g, cap, rfl⟩
        · clear hown hz hl0 ol nl
          go_wp2_with fail
          refine (name_any _ _).mono ?_
          rintro e w7 ⟨rfl, hb7⟩
          have hB7 := HH.out.below.trans (hb7.mono HH.out.below.size)
          clear hb7 c0 c1 c2 c3 c4
          go_wp2
          go_ret2
          exact ⟨congrArg (fun z => Ending.returned (.tuple #[.string z, .nilIface])) HFI.out, hB7⟩
        · clear hown hz hl0 ol nl
          go_wp2_with fail
          refine (name_any _ _).mono ?_
          rintro e w7 ⟨rfl, hb7⟩
          have hB7 := HH.out.below.trans (hb7.mono HH.out.below.size)
          clear hb7 c0 c1 c2 c3 c4
          go_wp2
          go_ret2
          exact ⟨congrArg (fun z => Ending.returned (.tuple #[.string z, .nilIface])) HFI.out, hB7⟩
      · obtain ⟨g, cap, rfl⟩ := Joins.ownsRow_form hown (by omega)
        have hcells : ∀ j c, L[j]? = some c → wr.cell? ⟨g, j, none⟩ = some (.string (bsl (opdB i c))) := by
          intro j c hc
          have := hown.cells rfl j (encO i c) (by rw [List.getElem?_map, hc]; rfl)
          have ha : (⟨g, 0, none⟩ : Addr).add j = ⟨g, j, none⟩ := by
            unfold Addr.add
            cases j <;> simp
          rw [ha] at this
          exact this
        have hcap : L.length ≤ cap := by
          rcases hown.2 with ⟨h, _⟩ | ⟨_, _, _, h, _, _, h2, _⟩
          · cases h
          · simp only [Value.slice.injEq] at h
            omega
        have hgl : g < wr.heap.size := (hown.lt g rfl).2
        have hz' : ((L.length : Int) == 0) = false := beq_eq_false_iff_ne.2 (by omega)
        have zj : (bsl (Lib.join (L.map (opdB i)) [44, 32])).size ≤ 200 := by
          rw [bsl_size]
          exact join_small _ (by rw [List.length_map]; exact ol) (fun y hy => by obtain ⟨c, _, rfl⟩ := List.mem_map.1 hy; exact HLEN.out c)
        have HJ : Hid (∀ W, Below wr.heap.size wr W → Calls Tryz.prog 29 #[.slice (some ⟨g, 0, none⟩) L.length cap, .string ⟨#[44, 32]⟩] W fun e w' => e = .returned (.string (bsl (Lib.join (L.map (opdB i)) [44, 32]))) ∧ Below W.heap.size W w') := by
          intro W hW
          have hm : (L.map (fun c => bsl (opdB i c))).map (·.data.toList) = L.map (opdB i) := by
            rw [List.map_map]
            refine List.map_congr_left fun c _ => ?_
            simp [bsl]
          have h := Tryz.strings_Join g 0 cap (L.map (fun c => bsl (opdB i c))) ⟨#[44, 32]⟩ W (by
            intro j x hx
            rw [List.getElem?_map] at hx
            cases hc : L[j]? with
            | none => rw [hc] at hx; cases hx
            | some c =>
              rw [hc] at hx
              simp only [Option.map_some, Option.some.injEq] at hx
              subst hx
              rw [hW.cell (by exact hgl), Nat.zero_add]
              exact hcells j c hc) (Nat.lt_of_lt_of_le hgl hW.size) (by rw [List.length_map]; omega) (by rw [List.length_map]; exact hcap) (by
            rw [hm]
            have := zj
            rw [bsl_size] at this
            exact Nat.le_trans this (by decide))
          rw [hm, List.length_map] at h
          exact h
        have hfin : nameS i.op ++ ⟨#[32]⟩ ++ bsl (Lib.join (L.map (opdB i)) [44, 32]) = bsl (textB i) := by
          rw [HFIN.out]
          unfold tailB nameS
          rw [HL.out, if_neg (fun h => hz (by rw [h]; rfl)), HOP.out, Int.toNat_natCast, show (⟨#[32]⟩ : ByteArray) = bsl [32] from rfl, bsl_app, bsl_app]
          simp
        have HFI := Lib.hid hfin
        clear hfin hcells hown hcap hgl hz nl
        go_wp2_with fail
        refine (name_any _ _).mono ?_
        rintro e w7 ⟨rfl, hb7⟩
        have hB7 := HH.out.below.trans (hb7.mono HH.out.below.size)
        clear c0 c1 c2 c3 c4
        go_wp2_with fail
        refine (HJ.out _ hb7).mono ?_
        rintro e w8 ⟨rfl, hb8⟩
        have hB8 := hB7.trans (hb8.mono hB7.size)
        clear hb7 hb8 hB7
        go_wp2
        go_ret2
        exact ⟨congrArg (fun z => Ending.returned (.tuple #[.string z, .nilIface])) HFI.out, hB8⟩
theorem text_bad (i : InsN) (hi : i.Fits) (h : (i.op ≤ 0 ∨ 54 ≤ i.op) ∨ encBad i = true) (ad : Nat → Addr) : ∃ q : Nat, (q = 1 ∨ q = 3) ∧ ∀ w, Two w ad →
    Calls Tryz.prog 8 #[insV i] w fun e w' => e = .returned (.tuple #[.string ⟨#[]⟩, .iface 214 (.pointer (some (ad q)))]) ∧ Below w.heap.size w w' := by
  obtain ⟨q, hq, HE⟩ : ∃ q : Nat, (q = 1 ∨ q = 3) ∧ Hid (∀ w, Two w ad → Calls Tryz.prog 25 #[insV i] w fun en w' => en = .returned (.tuple #[.int .u32 0, .iface 214 (.pointer (some (ad q)))]) ∧ Below w.heap.size w w') := by
    by_cases hlow : i.op ≤ 0 ∨ 54 ≤ i.op
    · exact ⟨3, Or.inr rfl, fun w hS => encode_none i (name_none i.op hlow) _ _ w hS.c3 hS.c1⟩
    · obtain ⟨m, hm⟩ := Int.eq_ofNat_of_zero_le (a := i.op) (by omega)
      have hn : (nameS i.op).toList.isEmpty = false := by rw [hm]; exact name_full m (by omega) (by omega)
      have hb := h.resolve_left hlow
      exact ⟨1, Or.inl rfl, fun w hS => (encode_some i hi hn _ _ w hS.c3 hS.c1).mono fun en w' h => ⟨by rw [h.1, encRes_bad hb], h.2⟩⟩
  refine ⟨q, hq, fun w hS => ?_⟩
  clear h hi hq
  go_enter Tryz.func8, Tryz.ntmps8
  go_wp2_with fail
  have hb0 : Below w.heap.size w (w.alloc (.cells #[.int .i64 i.op, .int .i64 i.s, .int .i64 i.t, .int .i64 i.d, .int .u32 i.imm] 24)) := (Below.refl _ _).alloc (Nat.le_refl _) _
  refine (HE.out _ (hS.below hb0)).mono ?_
  rintro e w1 ⟨rfl, hb1⟩
  have hB1 := hb0.trans (hb1.mono hb0.size)
  clear hb0 hb1 hS
  go_wp2
  go_ret2
  exact ⟨rfl, hB1⟩
end Go.Proofs.YtnppegldebocmaaGreatDoor
