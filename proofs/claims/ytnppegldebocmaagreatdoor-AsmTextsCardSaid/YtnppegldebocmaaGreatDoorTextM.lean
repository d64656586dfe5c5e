/- The walks of the document's Byte, below, Decimal, register, Word. Conditions: as each theorem states. The walk of the document's TextOf: the plain text of a good instruction. Conditions: as the theorem states. -/
import Derived.Test.YtnppegldebocmaaGreatDoorTexted
import Derived.Laws.BytesArg
import Derived.Test.YtnppegldebocmaaGreatDoorRowOf
namespace Go.Proofs.YtnppegldebocmaaGreatDoor
open Go.RowKit
set_option linter.unusedVariables false
theorem byte_any (u : Nat) (h : u < 256) (w : World) : Calls Tryz.prog 78 #[.int .i64 (u : Int)] w fun e w' => e = .returned (.string (bsl [UInt8.ofNat u])) ∧ Below w.heap.size w w' := by
  have hu : (u : Int) < 256 := by omega
  have hR : strOfNums [(u : Int)] = bsl [UInt8.ofNat u] := by simp [strOfNums, bsl]
  have hB := (Below.refl w.heap.size w).alloc (Nat.le_refl _) (.cells #[.int .u8 (u : Int)] 5)
  have hcv := run_convert_bytes_arg (P := Tryz.prog) (w.alloc (.cells #[.int .u8 (u : Int)] 5)) 108 5 Tryz.underlying108 Tryz.underlying5 w.heap.size 0 1 1 [(u : Int)] rfl (by
    intro i hi
    obtain rfl : i = 0 := by omega
    unfold World.cell?
    rw [heap_alloc_new]
    rfl) 9 Tryz.underlying9
  rw [hR] at hcv
  generalize bsl [UInt8.ofNat u] = R at *
  have h0 : (0 : Int) ≤ (u : Int) := by omega
  clear hR h
  generalize (u : Int) = z at *
  go_enter Tryz.func78, Tryz.ntmps78
  go_wp2_with fail
  go_ret
  exact ⟨rfl, hB⟩
theorem below_one (u : Nat) (h : u < 10) (w : World) : Calls Tryz.prog 47 #[.int .i64 (-(u : Int))] w fun e w' => e = .returned (.string (bsl (Lib.decDigits u))) ∧ Below w.heap.size w w' := by
  have HB := Lib.hid (byte_any (48 + u) (by omega) w)
  rw [← Lib.decDigits_one h] at HB
  have e : ((48 + u : Nat) : Int) = 48 - (-(u : Int)) := by omega
  rw [e] at HB
  have h1 : (-10 : Int) < -(u : Int) := by omega
  have h2 : -(u : Int) ≤ 0 := by omega
  generalize bsl (Lib.decDigits u) = R at *
  clear e h
  generalize -(u : Int) = z at *
  go_enter Tryz.func47, Tryz.ntmps47
  go_wp2_with fail
  refine HB.out.mono ?_
  rintro e w1 ⟨rfl, hb1⟩
  go_wp2
  go_ret
  exact ⟨rfl, hb1⟩
theorem bsl_app2 (a b : List UInt8) : bsl a ++ bsl b = bsl (a ++ b) := bsl_app a b
set_option maxHeartbeats 1000000 in
theorem below_any (u : Nat) (h : u < 100000000000) (w : World) : Calls Tryz.prog 47 #[.int .i64 (-(u : Int))] w fun e w' => e = .returned (.string (bsl (Lib.decDigits u))) ∧ Below w.heap.size w w' := by
  induction u using Nat.strongRecOn generalizing w with
  | _ u ih =>
    by_cases h10 : u < 10
    · exact below_one u h10 w
    · have HI := Lib.hid (fun W => ih (u / 10) (by omega) (by omega) W)
      have HB := Lib.hid (fun W => byte_any (48 + u % 10) (by omega) W)
      have hR : bsl (Lib.decDigits (u / 10)) ++ bsl [UInt8.ofNat (48 + u % 10)] = bsl (Lib.decDigits u) := by
        rw [bsl_app2]
        conv => rhs; rw [Lib.decDigits, dif_neg h10]
      have HR := Lib.hid hR
      have e : ((48 + u % 10 : Nat) : Int) = 48 + ((u % 10 : Nat) : Int) := by omega
      rw [e] at HB
      have hq : (-(u : Int)).tdiv 10 = -((u / 10 : Nat) : Int) := by rw [Int.neg_tdiv, Int.ofNat_tdiv]; rfl
      have hr : (-(u : Int)).tmod 10 = -((u % 10 : Nat) : Int) := by rw [Int.neg_tmod, Int.ofNat_tmod]; rfl
      have h1 : ¬ (-10 : Int) < -(u : Int) := by omega
      have h2 : -(u : Int) ≤ 0 := by omega
      have h3 : (-100000000000 : Int) < -(u : Int) := by omega
      have b1 : (0 : Int) ≤ ((u % 10 : Nat) : Int) ∧ ((u % 10 : Nat) : Int) < 10 := by omega
      have b2 : (0 : Int) ≤ ((u / 10 : Nat) : Int) ∧ ((u / 10 : Nat) : Int) ≤ 100000000000 := by omega
      have hsz : (bsl (Lib.decDigits (u / 10))).size ≤ 100 := by
        rw [bsl_size]
        have := itoa_size (u / 10 : Nat) (by omega) (by omega)
        rw [bsl_size] at this
        unfold Lib.itoa at this
        rw [if_neg (by omega), Int.toNat_natCast] at this
        omega
      have hsB : (bsl [UInt8.ofNat (48 + u % 10)]).size = 1 := by rw [bsl_size]; rfl
      clear ih hR e h
      generalize bsl (Lib.decDigits u) = R at *
      generalize bsl (Lib.decDigits (u / 10)) = A at *
      generalize bsl [UInt8.ofNat (48 + u % 10)] = B at *
      clear h10
      generalize ((u % 10 : Nat) : Int) = r at *
      generalize ((u / 10 : Nat) : Int) = q at *
      generalize -(u : Int) = z at *
      obtain ⟨b11, b12⟩ := b1
      obtain ⟨b21, b22⟩ := b2
      go_enter Tryz.func47, Tryz.ntmps47
      go_wp2_with fail
      refine (HI.out w).mono ?_
      rintro e w1 ⟨rfl, hb1⟩
      go_wp2_with fail
      refine (HB.out w1).mono ?_
      rintro e w2 ⟨rfl, hb2⟩
      have HB2 := Lib.hid (hb1.trans (hb2.mono hb1.size))
      clear hb1 hb2
      go_wp2
      go_ret
      exact ⟨congrArg (fun z => Ending.returned (.string z)) HR.out, HB2.out⟩
theorem decimal_any (n : Int) (h0 : -100000000000 < n) (h1 : n < 100000000000) (w : World) : Calls Tryz.prog 15 #[.int .i64 n] w fun e w' => e = .returned (.string (bsl (Lib.itoa n))) ∧ Below w.heap.size w w' := by
  by_cases hn : n < 0
  · have HB := Lib.hid (below_any n.natAbs (by omega) w)
    have e : -((n.natAbs : Nat) : Int) = n := by omega
    rw [e] at HB
    have hR : (⟨#[45]⟩ : ByteArray) ++ bsl (Lib.decDigits n.natAbs) = bsl (Lib.itoa n) := by
      unfold Lib.itoa
      rw [if_pos hn]
      exact bsl_app2 [45] _
    have HR := Lib.hid hR
    have hsz : (bsl (Lib.decDigits n.natAbs)).size ≤ 100 := by
      have := itoa_size n (by omega) (by omega)
      unfold Lib.itoa at this
      rw [if_pos hn] at this
      rw [bsl_size] at this ⊢
      simp at this
      omega
    clear e hR
    generalize bsl (Lib.itoa n) = R at *
    generalize bsl (Lib.decDigits n.natAbs) = A at *
    go_enter Tryz.func15, Tryz.ntmps15
    go_wp2_with fail
    refine HB.out.mono ?_
    rintro e w1 ⟨rfl, hb1⟩
    go_wp2
    go_ret
    exact ⟨congrArg (fun z => Ending.returned (.string z)) HR.out, hb1⟩
  · have HB := Lib.hid (below_any n.toNat (by omega) w)
    have e : -((n.toNat : Nat) : Int) = -n := by omega
    have e2 : Lib.decDigits n.toNat = Lib.itoa n := by unfold Lib.itoa; rw [if_neg hn]
    rw [e, e2] at HB
    clear e e2
    generalize bsl (Lib.itoa n) = R at *
    go_enter Tryz.func15, Tryz.ntmps15
    go_wp2_with fail
    refine HB.out.mono ?_
    rintro e w1 ⟨rfl, hb1⟩
    go_wp2
    go_ret
    exact ⟨rfl, hb1⟩
theorem reg_text (n : Int) (h0 : -100000000000 < n) (h1 : n < 100000000000) (w : World) : Calls Tryz.prog 37 #[.int .i64 n] w fun e w' => e = .returned (.string (bsl (36 :: Lib.itoa n))) ∧ Below w.heap.size w w' := by
  have HB := Lib.hid (decimal_any n h0 h1 w)
  have hR : (⟨#[36]⟩ : ByteArray) ++ bsl (Lib.itoa n) = bsl (36 :: Lib.itoa n) := bsl_app2 [36] _
  have HR := Lib.hid hR
  have hsz := itoa_size n (by omega) (by omega)
  clear hR
  generalize bsl (36 :: Lib.itoa n) = R at *
  generalize bsl (Lib.itoa n) = A at *
  go_enter Tryz.func37, Tryz.ntmps37
  go_wp2_with fail
  refine HB.out.mono ?_
  rintro e w1 ⟨rfl, hb1⟩
  go_wp2
  go_ret
  exact ⟨congrArg (fun z => Ending.returned (.string z)) HR.out, hb1⟩
end Go.Proofs.YtnppegldebocmaaGreatDoor
namespace Go.Proofs.YtnppegldebocmaaGreatDoor
open Go.RowKit
set_option linter.unusedVariables false
def preT (i : InsN) (l : List UInt8) : List UInt8 := if l = [] then [] else 32 :: Lib.join (l.map (opdB i)) [44, 32]
def sepT (j : Nat) : List UInt8 := if j = 0 then [32] else [44, 32]
theorem preT_step (i : InsN) (l : List UInt8) (c : UInt8) : preT i (l ++ [c]) = preT i l ++ (sepT l.length ++ opdB i c) := by
  cases l with
  | nil => simp [preT, sepT, Lib.join_one]
  | cons x r =>
    have h1 : Lib.join ((x :: r ++ [c]).map (opdB i)) [44, 32] = Lib.join ((x :: r).map (opdB i)) [44, 32] ++ ([44, 32] ++ opdB i c) := by
      rw [List.cons_append, List.map_cons, Lib.join_cons, List.map_cons, Lib.join_cons, List.map_append]
      simp [Lib.joinTail]
    unfold preT sepT
    rw [if_neg (by simp), if_neg (by simp), if_neg (by simp), h1]
    simp
theorem text_pre (i : InsN) (k : Nat) (hk : i.op.toNat = k) : textB i = nameB k ++ preT i (orderB k) := by
  unfold textB tailB preT
  rw [hk]
set_option maxHeartbeats 2000000 in
theorem textOf_any (i : InsN) (hi : i.Fits) (h : goodI i) (w : World) :
    Calls Tryz.prog 12 #[insV i] w fun e w' => e = .returned (.string (bsl (textB i))) ∧ Below w.heap.size w w' := by
  obtain ⟨k, hop⟩ := Int.eq_ofNat_of_zero_le (a := i.op) (by have := h.1; omega)
  have k1 : 1 ≤ k := by have := h.1; omega
  have k2 : k < 54 := by have := h.1; omega
  have hT := text_pre i k (by omega)
  have HT := Lib.hid hT
  obtain ⟨ol, oL, nl, _⟩ := order_facts k k2
  have HOL := Lib.hid oL
  have HLEN := Lib.hid (fun c => opd_len i hi c)
  have HR := Lib.hid (fun W => rowOf_at k k1 k2 W)
  have hF := Five.new w (.int .i64 i.op) (.int .i64 i.s) (.int .i64 i.t) (.int .i64 i.d) (.int .u32 i.imm) 24
  have hal := (Below.refl w.heap.size w).alloc (Nat.le_refl _) (.cells #[.int .i64 i.op, .int .i64 i.s, .int .i64 i.t, .int .i64 i.d, .int .u32 i.imm] 24)
  obtain ⟨ws, wt, wd, wm⟩ := good_wells i k hop hi.m0 h.2
  have hm0 := hi.m0
  have hmm : i.imm ≤ 67108863 := by
    have : mostZ (fieldsB k) ≤ 67108863 := by unfold mostZ; split; exact Int.le_refl _; split; decide; split <;> decide
    omega
  have hws : ∀ n b, wellB n b = true → 0 ≤ n ∧ n < 32 := by
    intro n b q
    unfold wellB at q
    simp only [Bool.or_eq_true, Bool.and_eq_true, decide_eq_true_eq] at q
    omega
  have bs := hws _ _ ws
  have bt := hws _ _ wt
  have bd := hws _ _ wd
  have HS := Lib.hid (fun W => reg_text i.s (by omega) (by omega) W)
  have HTT := Lib.hid (fun W => reg_text i.t (by omega) (by omega) W)
  have HD := Lib.hid (fun W => reg_text i.d (by omega) (by omega) W)
  have HIM := Lib.hid (fun W => decimal_any i.imm (by omega) (by omega) W)
  have HIS := Lib.hid (fun W => decimal_any (immS i.imm) (by unfold immS; split <;> omega) (by unfold immS; split <;> omega) W)
  have HOPD : Hid (∀ c, opdB i c = if c = 83 then 36 :: Lib.itoa i.s else if c = 84 then 36 :: Lib.itoa i.t else if c = 68 then 36 :: Lib.itoa i.d else if c = 110 then Lib.itoa (immS i.imm) else if c = 109 then Lib.itoa (immS i.imm) ++ ([40, 36] ++ (Lib.itoa i.s ++ [41])) else Lib.itoa i.imm) := fun c => rfl
  rw [← hop] at HR
  have HAL := Lib.hid hal
  clear hop hT oL h ws wt wd wm hws bs bt bd hal
  have zn := bsl_size (nameB k)
  generalize hL : orderB k = L at *
  have hL0 := Lib.hid hL
  go_enter Tryz.func12, Tryz.ntmps12
  go_wp2_with fail
  refine (HR.out _).mono ?_
  rintro e w1 ⟨rfl, hb1⟩
  have hF1 := hF.below hb1 hF.lt
  have hB1 := HAL.out.trans (hb1.mono HAL.out.size)
  have h6 := Six.new w1 (.string (bsl (nameB k))) (.int .i64 (majorN k : Int)) (.int .i64 (minorN k : Int)) (.string (bsl (fieldsB k))) (.string (bsl L)) (.string (bsl (kindB k))) 65
  have hal1 := (Below.refl w1.heap.size w1).alloc (Nat.le_refl _) (.cells #[.string (bsl (nameB k)), .int .i64 (majorN k : Int), .int .i64 (minorN k : Int), .string (bsl (fieldsB k)), .string (bsl L), .string (bsl (kindB k))] 65)
  have hF2 := hF1.below hal1 hF1.lt
  have HB2 := Lib.hid (hB1.trans (hal1.mono hB1.size))
  obtain ⟨c0, c1, c2, c3, c4⟩ := hF2.cells
  obtain ⟨d0, d1, d2, d3, d4, d5⟩ := h6.cells
  have hlF := hF2.lt
  have hl6 : w1.heap.size < (w1.alloc (.cells #[.string (bsl (nameB k)), .int .i64 (majorN k : Int), .int .i64 (minorN k : Int), .string (bsl (fieldsB k)), .string (bsl L), .string (bsl (kindB k))] 65)).heap.size := by simp
  have HF2 := Lib.hid hF2
  have H62 := Lib.hid h6
  clear hF hb1 hF1 hB1 h6 hal1 hF2
  have hcase : (32768 ≤ i.imm ∧ Hid (∀ W, Calls Tryz.prog 15 #[.int .i64 (i.imm - 65536)] W fun e w' => e = .returned (.string (bsl (Lib.itoa (immS i.imm)))) ∧ Below W.heap.size W w')) ∨ (¬ 32768 ≤ i.imm ∧ Hid (∀ W, Calls Tryz.prog 15 #[.int .i64 i.imm] W fun e w' => e = .returned (.string (bsl (Lib.itoa (immS i.imm)))) ∧ Below W.heap.size W w')) := by
    by_cases hb : 32768 ≤ i.imm
    · refine Or.inl ⟨hb, fun W => ?_⟩
      have e : i.imm - 65536 = immS i.imm := by unfold immS; rw [if_pos hb]
      rw [e]
      exact HIS.out W
    · refine Or.inr ⟨hb, fun W => ?_⟩
      have e : immS i.imm = i.imm := by unfold immS; rw [if_neg hb]
      rw [e]
      exact HIM.out W
  rcases hcase with ⟨hbg, HIZ⟩ | ⟨hbg, HIZ⟩
  · go_wp2_with fail
    generalize w1.alloc (.cells #[.string (bsl (nameB k)), .int .i64 (majorN k : Int), .int .i64 (minorN k : Int), .string (bsl (fieldsB k)), .string (bsl L), .string (bsl (kindB k))] 65) = w2 at *
    generalize w1.heap.size = rb at *
    clear c0 c1 c2 c3 c4 d0 d1 d2 d3 d4 d5 hL
    go_loopw [4, 6] (fun ov kv wr => ∃ (j : Nat) (A : List UInt8), j ≤ L.length ∧ kv = .int .i64 (j : Int) ∧ ov = .string (bsl A) ∧ Hid (A = nameB k ++ preT i (L.take j)) ∧ A.length ≤ 10 + 60 * j ∧ Below w2.heap.size w2 wr) (fun _ kv _ => L.length - (intOf kv).toNat)
    case atStart => exact ⟨0, nameB k, Nat.zero_le _, rfl, rfl, by show _ = _; simp [preT], by omega, Below.refl _ _⟩
    case round =>
      obtain ⟨j, A, hj, rfl, rfl, HA, hAl, hb⟩ := hrel
      have hFr := HF2.out.below hb hlF
      have h6r := H62.out.below hb hl6
      obtain ⟨c0, c1, c2, c3, c4⟩ := hFr.cells
      obtain ⟨d0, d1, d2, d3, d4, d5⟩ := h6r.cells
      have HB := Lib.hid hb
      have hA1 := bsl_size A
      have hL1 := bsl_size L
      clear hFr h6r hb
      by_cases hlt : j < L.length
      · have hltb : j < (bsl L).size := by rw [bsl_size]; exact hlt
        obtain ⟨c, hc⟩ : ∃ c, L[j]'hlt = c := ⟨_, rfl⟩
        have hcm : c ∈ opLetters := hc ▸ HOL.out _ (List.getElem_mem hlt)
        have HST0 : Hid (preT i (L.take (j + 1)) = preT i (L.take j) ++ (sepT j ++ opdB i c)) := by
          show _ = _
          rw [List.take_succ_eq_append_getElem hlt, hc, preT_step, List.length_take, Nat.min_eq_left (by omega)]
        have hol := HLEN.out c
        have hcb : (bsl L)[j]'hltb = c := by rw [bsl_get]; exact hc
        clear hc
        simp only [opLetters, List.mem_cons, List.not_mem_nil, or_false] at hcm
        by_cases hj0 : j = 0
        · have HST : Hid (preT i (L.take (j + 1)) = preT i (L.take j) ++ ([32] ++ opdB i c)) := by show _ = _; rw [HST0.out]; unfold sepT; rw [if_pos hj0]
          have hj0' : ((j : Int) == 0) = true := by rw [hj0]; rfl
          clear hj0 HST0
          rcases hcm with rfl | rfl | rfl | rfl | rfl | rfl | rfl | rfl
          · have hcz : (((bsl L)[j]'hltb).toNat : Int) = 83 := by rw [hcb]; rfl
            have hsz : (bsl (36 :: Lib.itoa i.s)).size ≤ 50 := by rw [bsl_size]; exact hol
            clear hcb
            go_wp2_with fail
            refine (HS.out _).mono ?_
            rintro e w5 ⟨rfl, hb5⟩
            have HB5 := Lib.hid (HB.out.trans (hb5.mono HB.out.size))
            clear hb5
            have hov : ∀ X : ByteArray, X = bsl (A ++ ([32] ++ (36 :: Lib.itoa i.s))) → Value.string X = .string (bsl (A ++ ([32] ++ (36 :: Lib.itoa i.s)))) := fun X q => congrArg Value.string q
            go_wp2
            go_roundw
            case rel =>
              refine ⟨j + 1, A ++ ([32] ++ (36 :: Lib.itoa i.s)), by omega, by go_num, hov _ ?_, ?_, ?_, HB5.out⟩
              · show bsl A ++ (⟨#[32]⟩ : ByteArray) ++ bsl (36 :: Lib.itoa i.s) = _
                rw [show (⟨#[32]⟩ : ByteArray) = bsl [32] from rfl, bsl_app, bsl_app, List.append_assoc]
              · show _ = _
                rw [HST.out, HA.out, List.append_assoc]
                rfl
              · rw [List.length_append, List.length_append]
                have : (36 :: Lib.itoa i.s).length ≤ 50 := hol
                simp only [List.length_cons, List.length_nil] at this ⊢
                omega
            case measure => simp [intOf]; omega
          · have hcz : (((bsl L)[j]'hltb).toNat : Int) = 84 := by rw [hcb]; rfl
            have hsz : (bsl (36 :: Lib.itoa i.t)).size ≤ 50 := by rw [bsl_size]; exact hol
            clear hcb
            go_wp2_with fail
            refine (HTT.out _).mono ?_
            rintro e w5 ⟨rfl, hb5⟩
            have HB5 := Lib.hid (HB.out.trans (hb5.mono HB.out.size))
            clear hb5
            have hov : ∀ X : ByteArray, X = bsl (A ++ ([32] ++ (36 :: Lib.itoa i.t))) → Value.string X = .string (bsl (A ++ ([32] ++ (36 :: Lib.itoa i.t)))) := fun X q => congrArg Value.string q
            go_wp2
            go_roundw
            case rel =>
              refine ⟨j + 1, A ++ ([32] ++ (36 :: Lib.itoa i.t)), by omega, by go_num, hov _ ?_, ?_, ?_, HB5.out⟩
              · show bsl A ++ (⟨#[32]⟩ : ByteArray) ++ bsl (36 :: Lib.itoa i.t) = _
                rw [show (⟨#[32]⟩ : ByteArray) = bsl [32] from rfl, bsl_app, bsl_app, List.append_assoc]
              · show _ = _
                rw [HST.out, HA.out, List.append_assoc]
                rfl
              · rw [List.length_append, List.length_append]
                have : (36 :: Lib.itoa i.t).length ≤ 50 := hol
                simp only [List.length_cons, List.length_nil] at this ⊢
                omega
            case measure => simp [intOf]; omega
          · have hcz : (((bsl L)[j]'hltb).toNat : Int) = 68 := by rw [hcb]; rfl
            have hsz : (bsl (36 :: Lib.itoa i.d)).size ≤ 50 := by rw [bsl_size]; exact hol
            clear hcb
            go_wp2_with fail
            refine (HD.out _).mono ?_
            rintro e w5 ⟨rfl, hb5⟩
            have HB5 := Lib.hid (HB.out.trans (hb5.mono HB.out.size))
            clear hb5
            have hov : ∀ X : ByteArray, X = bsl (A ++ ([32] ++ (36 :: Lib.itoa i.d))) → Value.string X = .string (bsl (A ++ ([32] ++ (36 :: Lib.itoa i.d)))) := fun X q => congrArg Value.string q
            go_wp2
            go_roundw
            case rel =>
              refine ⟨j + 1, A ++ ([32] ++ (36 :: Lib.itoa i.d)), by omega, by go_num, hov _ ?_, ?_, ?_, HB5.out⟩
              · show bsl A ++ (⟨#[32]⟩ : ByteArray) ++ bsl (36 :: Lib.itoa i.d) = _
                rw [show (⟨#[32]⟩ : ByteArray) = bsl [32] from rfl, bsl_app, bsl_app, List.append_assoc]
              · show _ = _
                rw [HST.out, HA.out, List.append_assoc]
                rfl
              · rw [List.length_append, List.length_append]
                have : (36 :: Lib.itoa i.d).length ≤ 50 := hol
                simp only [List.length_cons, List.length_nil] at this ⊢
                omega
            case measure => simp [intOf]; omega
          · have hcz : (((bsl L)[j]'hltb).toNat : Int) = 110 := by rw [hcb]; rfl
            have hsz : (bsl (Lib.itoa (immS i.imm))).size ≤ 50 := by rw [bsl_size]; exact hol
            clear hcb
            go_wp2_with fail
            refine (HIZ.out _).mono ?_
            rintro e w5 ⟨rfl, hb5⟩
            have HB5 := Lib.hid (HB.out.trans (hb5.mono HB.out.size))
            clear hb5
            have hov : ∀ X : ByteArray, X = bsl (A ++ ([32] ++ (Lib.itoa (immS i.imm)))) → Value.string X = .string (bsl (A ++ ([32] ++ (Lib.itoa (immS i.imm))))) := fun X q => congrArg Value.string q
            go_wp2
            go_roundw
            case rel =>
              refine ⟨j + 1, A ++ ([32] ++ (Lib.itoa (immS i.imm))), by omega, by go_num, hov _ ?_, ?_, ?_, HB5.out⟩
              · show bsl A ++ (⟨#[32]⟩ : ByteArray) ++ bsl (Lib.itoa (immS i.imm)) = _
                rw [show (⟨#[32]⟩ : ByteArray) = bsl [32] from rfl, bsl_app, bsl_app, List.append_assoc]
              · show _ = _
                rw [HST.out, HA.out, List.append_assoc]
                rfl
              · rw [List.length_append, List.length_append]
                have : (Lib.itoa (immS i.imm)).length ≤ 50 := hol
                simp only [List.length_cons, List.length_nil] at this ⊢
                omega
            case measure => simp [intOf]; omega
          · have hcz : (((bsl L)[j]'hltb).toNat : Int) = 109 := by rw [hcb]; rfl
            have hol2 : (Lib.itoa (immS i.imm) ++ ([40, 36] ++ (Lib.itoa i.s ++ [41]))).length ≤ 50 := hol
            simp only [List.length_append, List.length_cons, List.length_nil] at hol2
            have hsz1 : (bsl (Lib.itoa (immS i.imm))).size ≤ 50 := by rw [bsl_size]; omega
            have hsz2 : (bsl (36 :: Lib.itoa i.s)).size ≤ 50 := by rw [bsl_size]; simp; omega
            have hx : (bsl A ++ (⟨#[32]⟩ : ByteArray)).size ≤ 300 := by rw [ByteArray.size_append]; have : (⟨#[32]⟩ : ByteArray).size = 1 := rfl; omega
            clear hcb hol2
            go_wp2_with fail
            have hX : bsl A ++ (⟨#[32]⟩ : ByteArray) = bsl (A ++ [32]) := bsl_app A [32]
            have HX := Lib.hid hX
            clear hX
            generalize bsl A ++ (⟨#[32]⟩ : ByteArray) = X at *
            have q40 : (⟨#[40]⟩ : ByteArray).size = 1 := rfl
            have q41 : (⟨#[41]⟩ : ByteArray).size = 1 := rfl
            have a1 : ∀ w, (Op.stringOp .add X (bsl (Lib.itoa (immS i.imm)))).run Tryz.prog w = .ok (.string (X ++ bsl (Lib.itoa (immS i.imm)))) w := fun _ => run_string_add_sum _ _ _ (by omega)
            have a2 : ∀ w, (Op.stringOp .add (X ++ bsl (Lib.itoa (immS i.imm))) ⟨#[40]⟩).run Tryz.prog w = .ok (.string (X ++ bsl (Lib.itoa (immS i.imm)) ++ ⟨#[40]⟩)) w := fun _ => run_string_add_sum _ _ _ (by rw [ByteArray.size_append]; omega)
            have a3 : ∀ w, (Op.stringOp .add (X ++ bsl (Lib.itoa (immS i.imm)) ++ ⟨#[40]⟩) (bsl (36 :: Lib.itoa i.s))).run Tryz.prog w = .ok (.string (X ++ bsl (Lib.itoa (immS i.imm)) ++ ⟨#[40]⟩ ++ bsl (36 :: Lib.itoa i.s))) w := fun _ => run_string_add_sum _ _ _ (by rw [ByteArray.size_append, ByteArray.size_append]; omega)
            have a4 : ∀ w, (Op.stringOp .add (X ++ bsl (Lib.itoa (immS i.imm)) ++ ⟨#[40]⟩ ++ bsl (36 :: Lib.itoa i.s)) ⟨#[41]⟩).run Tryz.prog w = .ok (.string (X ++ bsl (Lib.itoa (immS i.imm)) ++ ⟨#[40]⟩ ++ bsl (36 :: Lib.itoa i.s) ++ ⟨#[41]⟩)) w := fun _ => run_string_add_sum _ _ _ (by rw [ByteArray.size_append, ByteArray.size_append, ByteArray.size_append]; omega)
            have hBr : Below wr.heap.size wr wr := Below.refl _ _
            clear c0 c2 c3 c4 d0 d1 d2 d3 d4 d5 q40 q41
            go_region_held3 (fun w' => (w'.cell? ⟨w.heap.size, 1, none⟩ = some (.int .i64 i.s) ∧ Below wr.heap.size wr w'))
              ((go_split_ands; refine ⟨?_, ?_⟩ <;> (first | assumption | (rw [hb9.cell (World.block_lt_of_cell? _ _ (by assumption))]; assumption) | exact Below.drew (by assumption) | exact Below.trans (by assumption) (hb9.mono (Below.size (by assumption))) | (simp [go_sem, *]; done))))
              (first | (go_at_call 15; refine (HIZ.out _).mono ?_; rintro e w' ⟨rfl, hb9⟩) | (go_at_call 37; refine (HS.out _).mono ?_; rintro e w' ⟨rfl, hb9⟩))
            go_split_ands
            have hb5 : Below wr.heap.size wr w' := by assumption
            have HB5 := Lib.hid (HB.out.trans (hb5.mono HB.out.size))
            clear hb5
            have hov : ∀ X : ByteArray, X = bsl (A ++ ([32] ++ (Lib.itoa (immS i.imm) ++ ([40, 36] ++ (Lib.itoa i.s ++ [41]))))) → Value.string X = .string (bsl (A ++ ([32] ++ (Lib.itoa (immS i.imm) ++ ([40, 36] ++ (Lib.itoa i.s ++ [41])))))) := fun X q => congrArg Value.string q
            go_wp2
            go_roundw
            case rel =>
              refine ⟨j + 1, A ++ ([32] ++ (Lib.itoa (immS i.imm) ++ ([40, 36] ++ (Lib.itoa i.s ++ [41])))), by omega, by go_num, hov _ ?_, ?_, ?_, HB5.out⟩
              · show X ++ bsl (Lib.itoa (immS i.imm)) ++ (⟨#[40]⟩ : ByteArray) ++ bsl (36 :: Lib.itoa i.s) ++ (⟨#[41]⟩ : ByteArray) = _
                rw [HX.out, show (⟨#[40]⟩ : ByteArray) = bsl [40] from rfl, show (⟨#[41]⟩ : ByteArray) = bsl [41] from rfl, bsl_app, bsl_app, bsl_app, bsl_app]
                congr 1
                simp
              · show _ = _
                rw [HST.out, HA.out, List.append_assoc]
                rfl
              · rw [List.length_append, List.length_append]
                have : (Lib.itoa (immS i.imm) ++ ([40, 36] ++ (Lib.itoa i.s ++ [41]))).length ≤ 50 := hol
                simp only [List.length_cons, List.length_nil, List.length_append] at this ⊢
                omega
            case measure => simp [intOf]; omega
          · have hcz : (((bsl L)[j]'hltb).toNat : Int) = 97 := by rw [hcb]; rfl
            have hsz : (bsl (Lib.itoa i.imm)).size ≤ 50 := by rw [bsl_size]; exact hol
            clear hcb
            go_wp2_with fail
            refine (HIM.out _).mono ?_
            rintro e w5 ⟨rfl, hb5⟩
            have HB5 := Lib.hid (HB.out.trans (hb5.mono HB.out.size))
            clear hb5
            have hov : ∀ X : ByteArray, X = bsl (A ++ ([32] ++ (Lib.itoa i.imm))) → Value.string X = .string (bsl (A ++ ([32] ++ (Lib.itoa i.imm)))) := fun X q => congrArg Value.string q
            go_wp2
            go_roundw
            case rel =>
              refine ⟨j + 1, A ++ ([32] ++ (Lib.itoa i.imm)), by omega, by go_num, hov _ ?_, ?_, ?_, HB5.out⟩
              · show bsl A ++ (⟨#[32]⟩ : ByteArray) ++ bsl (Lib.itoa i.imm) = _
                rw [show (⟨#[32]⟩ : ByteArray) = bsl [32] from rfl, bsl_app, bsl_app, List.append_assoc]
              · show _ = _
                rw [HST.out, HA.out, List.append_assoc]
                rfl
              · rw [List.length_append, List.length_append]
                have : (Lib.itoa i.imm).length ≤ 50 := hol
                simp only [List.length_cons, List.length_nil] at this ⊢
                omega
            case measure => simp [intOf]; omega
          · have hcz : (((bsl L)[j]'hltb).toNat : Int) = 117 := by rw [hcb]; rfl
            have hsz : (bsl (Lib.itoa i.imm)).size ≤ 50 := by rw [bsl_size]; exact hol
            clear hcb
            go_wp2_with fail
            refine (HIM.out _).mono ?_
            rintro e w5 ⟨rfl, hb5⟩
            have HB5 := Lib.hid (HB.out.trans (hb5.mono HB.out.size))
            clear hb5
            have hov : ∀ X : ByteArray, X = bsl (A ++ ([32] ++ (Lib.itoa i.imm))) → Value.string X = .string (bsl (A ++ ([32] ++ (Lib.itoa i.imm)))) := fun X q => congrArg Value.string q
            go_wp2
            go_roundw
            case rel =>
              refine ⟨j + 1, A ++ ([32] ++ (Lib.itoa i.imm)), by omega, by go_num, hov _ ?_, ?_, ?_, HB5.out⟩
              · show bsl A ++ (⟨#[32]⟩ : ByteArray) ++ bsl (Lib.itoa i.imm) = _
                rw [show (⟨#[32]⟩ : ByteArray) = bsl [32] from rfl, bsl_app, bsl_app, List.append_assoc]
              · show _ = _
                rw [HST.out, HA.out, List.append_assoc]
                rfl
              · rw [List.length_append, List.length_append]
                have : (Lib.itoa i.imm).length ≤ 50 := hol
                simp only [List.length_cons, List.length_nil] at this ⊢
                omega
            case measure => simp [intOf]; omega
          · have hcz : (((bsl L)[j]'hltb).toNat : Int) = 106 := by rw [hcb]; rfl
            have hsz : (bsl (Lib.itoa i.imm)).size ≤ 50 := by rw [bsl_size]; exact hol
            clear hcb
            go_wp2_with fail
            refine (HIM.out _).mono ?_
            rintro e w5 ⟨rfl, hb5⟩
            have HB5 := Lib.hid (HB.out.trans (hb5.mono HB.out.size))
            clear hb5
            have hov : ∀ X : ByteArray, X = bsl (A ++ ([32] ++ (Lib.itoa i.imm))) → Value.string X = .string (bsl (A ++ ([32] ++ (Lib.itoa i.imm)))) := fun X q => congrArg Value.string q
            go_wp2
            go_roundw
            case rel =>
              refine ⟨j + 1, A ++ ([32] ++ (Lib.itoa i.imm)), by omega, by go_num, hov _ ?_, ?_, ?_, HB5.out⟩
              · show bsl A ++ (⟨#[32]⟩ : ByteArray) ++ bsl (Lib.itoa i.imm) = _
                rw [show (⟨#[32]⟩ : ByteArray) = bsl [32] from rfl, bsl_app, bsl_app, List.append_assoc]
              · show _ = _
                rw [HST.out, HA.out, List.append_assoc]
                rfl
              · rw [List.length_append, List.length_append]
                have : (Lib.itoa i.imm).length ≤ 50 := hol
                simp only [List.length_cons, List.length_nil] at this ⊢
                omega
            case measure => simp [intOf]; omega
        · have HST : Hid (preT i (L.take (j + 1)) = preT i (L.take j) ++ ([44, 32] ++ opdB i c)) := by show _ = _; rw [HST0.out]; unfold sepT; rw [if_neg hj0]
          have hj0' : ((j : Int) == 0) = false := by exact beq_eq_false_iff_ne.2 (by omega)
          clear hj0 HST0
          rcases hcm with rfl | rfl | rfl | rfl | rfl | rfl | rfl | rfl
          · have hcz : (((bsl L)[j]'hltb).toNat : Int) = 83 := by rw [hcb]; rfl
            have hsz : (bsl (36 :: Lib.itoa i.s)).size ≤ 50 := by rw [bsl_size]; exact hol
            clear hcb
            go_wp2_with fail
            refine (HS.out _).mono ?_
            rintro e w5 ⟨rfl, hb5⟩
            have HB5 := Lib.hid (HB.out.trans (hb5.mono HB.out.size))
            clear hb5
            have hov : ∀ X : ByteArray, X = bsl (A ++ ([44, 32] ++ (36 :: Lib.itoa i.s))) → Value.string X = .string (bsl (A ++ ([44, 32] ++ (36 :: Lib.itoa i.s)))) := fun X q => congrArg Value.string q
            go_wp2
            go_roundw
            case rel =>
              refine ⟨j + 1, A ++ ([44, 32] ++ (36 :: Lib.itoa i.s)), by omega, by go_num, hov _ ?_, ?_, ?_, HB5.out⟩
              · show bsl A ++ (⟨#[44, 32]⟩ : ByteArray) ++ bsl (36 :: Lib.itoa i.s) = _
                rw [show (⟨#[44, 32]⟩ : ByteArray) = bsl [44, 32] from rfl, bsl_app, bsl_app, List.append_assoc]
              · show _ = _
                rw [HST.out, HA.out, List.append_assoc]
                rfl
              · rw [List.length_append, List.length_append]
                have : (36 :: Lib.itoa i.s).length ≤ 50 := hol
                simp only [List.length_cons, List.length_nil] at this ⊢
                omega
            case measure => simp [intOf]; omega
          · have hcz : (((bsl L)[j]'hltb).toNat : Int) = 84 := by rw [hcb]; rfl
            have hsz : (bsl (36 :: Lib.itoa i.t)).size ≤ 50 := by rw [bsl_size]; exact hol
            clear hcb
            go_wp2_with fail
            refine (HTT.out _).mono ?_
            rintro e w5 ⟨rfl, hb5⟩
            have HB5 := Lib.hid (HB.out.trans (hb5.mono HB.out.size))
            clear hb5
            have hov : ∀ X : ByteArray, X = bsl (A ++ ([44, 32] ++ (36 :: Lib.itoa i.t))) → Value.string X = .string (bsl (A ++ ([44, 32] ++ (36 :: Lib.itoa i.t)))) := fun X q => congrArg Value.string q
            go_wp2
            go_roundw
            case rel =>
              refine ⟨j + 1, A ++ ([44, 32] ++ (36 :: Lib.itoa i.t)), by omega, by go_num, hov _ ?_, ?_, ?_, HB5.out⟩
              · show bsl A ++ (⟨#[44, 32]⟩ : ByteArray) ++ bsl (36 :: Lib.itoa i.t) = _
                rw [show (⟨#[44, 32]⟩ : ByteArray) = bsl [44, 32] from rfl, bsl_app, bsl_app, List.append_assoc]
              · show _ = _
                rw [HST.out, HA.out, List.append_assoc]
                rfl
              · rw [List.length_append, List.length_append]
                have : (36 :: Lib.itoa i.t).length ≤ 50 := hol
                simp only [List.length_cons, List.length_nil] at this ⊢
                omega
            case measure => simp [intOf]; omega
          · have hcz : (((bsl L)[j]'hltb).toNat : Int) = 68 := by rw [hcb]; rfl
            have hsz : (bsl (36 :: Lib.itoa i.d)).size ≤ 50 := by rw [bsl_size]; exact hol
            clear hcb
            go_wp2_with fail
            refine (HD.out _).mono ?_
            rintro e w5 ⟨rfl, hb5⟩
            have HB5 := Lib.hid (HB.out.trans (hb5.mono HB.out.size))
            clear hb5
            have hov : ∀ X : ByteArray, X = bsl (A ++ ([44, 32] ++ (36 :: Lib.itoa i.d))) → Value.string X = .string (bsl (A ++ ([44, 32] ++ (36 :: Lib.itoa i.d)))) := fun X q => congrArg Value.string q
            go_wp2
            go_roundw
            case rel =>
              refine ⟨j + 1, A ++ ([44, 32] ++ (36 :: Lib.itoa i.d)), by omega, by go_num, hov _ ?_, ?_, ?_, HB5.out⟩
              · show bsl A ++ (⟨#[44, 32]⟩ : ByteArray) ++ bsl (36 :: Lib.itoa i.d) = _
                rw [show (⟨#[44, 32]⟩ : ByteArray) = bsl [44, 32] from rfl, bsl_app, bsl_app, List.append_assoc]
              · show _ = _
                rw [HST.out, HA.out, List.append_assoc]
                rfl
              · rw [List.length_append, List.length_append]
                have : (36 :: Lib.itoa i.d).length ≤ 50 := hol
                simp only [List.length_cons, List.length_nil] at this ⊢
                omega
            case measure => simp [intOf]; omega
          · have hcz : (((bsl L)[j]'hltb).toNat : Int) = 110 := by rw [hcb]; rfl
            have hsz : (bsl (Lib.itoa (immS i.imm))).size ≤ 50 := by rw [bsl_size]; exact hol
            clear hcb
            go_wp2_with fail
            refine (HIZ.out _).mono ?_
            rintro e w5 ⟨rfl, hb5⟩
            have HB5 := Lib.hid (HB.out.trans (hb5.mono HB.out.size))
            clear hb5
            have hov : ∀ X : ByteArray, X = bsl (A ++ ([44, 32] ++ (Lib.itoa (immS i.imm)))) → Value.string X = .string (bsl (A ++ ([44, 32] ++ (Lib.itoa (immS i.imm))))) := fun X q => congrArg Value.string q
            go_wp2
            go_roundw
            case rel =>
              refine ⟨j + 1, A ++ ([44, 32] ++ (Lib.itoa (immS i.imm))), by omega, by go_num, hov _ ?_, ?_, ?_, HB5.out⟩
              · show bsl A ++ (⟨#[44, 32]⟩ : ByteArray) ++ bsl (Lib.itoa (immS i.imm)) = _
                rw [show (⟨#[44, 32]⟩ : ByteArray) = bsl [44, 32] from rfl, bsl_app, bsl_app, List.append_assoc]
              · show _ = _
                rw [HST.out, HA.out, List.append_assoc]
                rfl
              · rw [List.length_append, List.length_append]
                have : (Lib.itoa (immS i.imm)).length ≤ 50 := hol
                simp only [List.length_cons, List.length_nil] at this ⊢
                omega
            case measure => simp [intOf]; omega
          · have hcz : (((bsl L)[j]'hltb).toNat : Int) = 109 := by rw [hcb]; rfl
            have hol2 : (Lib.itoa (immS i.imm) ++ ([40, 36] ++ (Lib.itoa i.s ++ [41]))).length ≤ 50 := hol
            simp only [List.length_append, List.length_cons, List.length_nil] at hol2
            have hsz1 : (bsl (Lib.itoa (immS i.imm))).size ≤ 50 := by rw [bsl_size]; omega
            have hsz2 : (bsl (36 :: Lib.itoa i.s)).size ≤ 50 := by rw [bsl_size]; simp; omega
            have hx : (bsl A ++ (⟨#[44, 32]⟩ : ByteArray)).size ≤ 300 := by rw [ByteArray.size_append]; have : (⟨#[44, 32]⟩ : ByteArray).size = 2 := rfl; omega
            clear hcb hol2
            go_wp2_with fail
            have hX : bsl A ++ (⟨#[44, 32]⟩ : ByteArray) = bsl (A ++ [44, 32]) := bsl_app A [44, 32]
            have HX := Lib.hid hX
            clear hX
            generalize bsl A ++ (⟨#[44, 32]⟩ : ByteArray) = X at *
            have q40 : (⟨#[40]⟩ : ByteArray).size = 1 := rfl
            have q41 : (⟨#[41]⟩ : ByteArray).size = 1 := rfl
            have a1 : ∀ w, (Op.stringOp .add X (bsl (Lib.itoa (immS i.imm)))).run Tryz.prog w = .ok (.string (X ++ bsl (Lib.itoa (immS i.imm)))) w := fun _ => run_string_add_sum _ _ _ (by omega)
            have a2 : ∀ w, (Op.stringOp .add (X ++ bsl (Lib.itoa (immS i.imm))) ⟨#[40]⟩).run Tryz.prog w = .ok (.string (X ++ bsl (Lib.itoa (immS i.imm)) ++ ⟨#[40]⟩)) w := fun _ => run_string_add_sum _ _ _ (by rw [ByteArray.size_append]; omega)
            have a3 : ∀ w, (Op.stringOp .add (X ++ bsl (Lib.itoa (immS i.imm)) ++ ⟨#[40]⟩) (bsl (36 :: Lib.itoa i.s))).run Tryz.prog w = .ok (.string (X ++ bsl (Lib.itoa (immS i.imm)) ++ ⟨#[40]⟩ ++ bsl (36 :: Lib.itoa i.s))) w := fun _ => run_string_add_sum _ _ _ (by rw [ByteArray.size_append, ByteArray.size_append]; omega)
            have a4 : ∀ w, (Op.stringOp .add (X ++ bsl (Lib.itoa (immS i.imm)) ++ ⟨#[40]⟩ ++ bsl (36 :: Lib.itoa i.s)) ⟨#[41]⟩).run Tryz.prog w = .ok (.string (X ++ bsl (Lib.itoa (immS i.imm)) ++ ⟨#[40]⟩ ++ bsl (36 :: Lib.itoa i.s) ++ ⟨#[41]⟩)) w := fun _ => run_string_add_sum _ _ _ (by rw [ByteArray.size_append, ByteArray.size_append, ByteArray.size_append]; omega)
            have hBr : Below wr.heap.size wr wr := Below.refl _ _
            clear c0 c2 c3 c4 d0 d1 d2 d3 d4 d5 q40 q41
            go_region_held3 (fun w' => (w'.cell? ⟨w.heap.size, 1, none⟩ = some (.int .i64 i.s) ∧ Below wr.heap.size wr w'))
              ((go_split_ands; refine ⟨?_, ?_⟩ <;> (first | assumption | (rw [hb9.cell (World.block_lt_of_cell? _ _ (by assumption))]; assumption) | exact Below.drew (by assumption) | exact Below.trans (by assumption) (hb9.mono (Below.size (by assumption))) | (simp [go_sem, *]; done))))
              (first | (go_at_call 15; refine (HIZ.out _).mono ?_; rintro e w' ⟨rfl, hb9⟩) | (go_at_call 37; refine (HS.out _).mono ?_; rintro e w' ⟨rfl, hb9⟩))
            go_split_ands
            have hb5 : Below wr.heap.size wr w' := by assumption
            have HB5 := Lib.hid (HB.out.trans (hb5.mono HB.out.size))
            clear hb5
            have hov : ∀ X : ByteArray, X = bsl (A ++ ([44, 32] ++ (Lib.itoa (immS i.imm) ++ ([40, 36] ++ (Lib.itoa i.s ++ [41]))))) → Value.string X = .string (bsl (A ++ ([44, 32] ++ (Lib.itoa (immS i.imm) ++ ([40, 36] ++ (Lib.itoa i.s ++ [41])))))) := fun X q => congrArg Value.string q
            go_wp2
            go_roundw
            case rel =>
              refine ⟨j + 1, A ++ ([44, 32] ++ (Lib.itoa (immS i.imm) ++ ([40, 36] ++ (Lib.itoa i.s ++ [41])))), by omega, by go_num, hov _ ?_, ?_, ?_, HB5.out⟩
              · show X ++ bsl (Lib.itoa (immS i.imm)) ++ (⟨#[40]⟩ : ByteArray) ++ bsl (36 :: Lib.itoa i.s) ++ (⟨#[41]⟩ : ByteArray) = _
                rw [HX.out, show (⟨#[40]⟩ : ByteArray) = bsl [40] from rfl, show (⟨#[41]⟩ : ByteArray) = bsl [41] from rfl, bsl_app, bsl_app, bsl_app, bsl_app]
                congr 1
                simp
              · show _ = _
                rw [HST.out, HA.out, List.append_assoc]
                rfl
              · rw [List.length_append, List.length_append]
                have : (Lib.itoa (immS i.imm) ++ ([40, 36] ++ (Lib.itoa i.s ++ [41]))).length ≤ 50 := hol
                simp only [List.length_cons, List.length_nil, List.length_append] at this ⊢
                omega
            case measure => simp [intOf]; omega
          · have hcz : (((bsl L)[j]'hltb).toNat : Int) = 97 := by rw [hcb]; rfl
            have hsz : (bsl (Lib.itoa i.imm)).size ≤ 50 := by rw [bsl_size]; exact hol
            clear hcb
            go_wp2_with fail
            refine (HIM.out _).mono ?_
            rintro e w5 ⟨rfl, hb5⟩
            have HB5 := Lib.hid (HB.out.trans (hb5.mono HB.out.size))
            clear hb5
            have hov : ∀ X : ByteArray, X = bsl (A ++ ([44, 32] ++ (Lib.itoa i.imm))) → Value.string X = .string (bsl (A ++ ([44, 32] ++ (Lib.itoa i.imm)))) := fun X q => congrArg Value.string q
            go_wp2
            go_roundw
            case rel =>
              refine ⟨j + 1, A ++ ([44, 32] ++ (Lib.itoa i.imm)), by omega, by go_num, hov _ ?_, ?_, ?_, HB5.out⟩
              · show bsl A ++ (⟨#[44, 32]⟩ : ByteArray) ++ bsl (Lib.itoa i.imm) = _
                rw [show (⟨#[44, 32]⟩ : ByteArray) = bsl [44, 32] from rfl, bsl_app, bsl_app, List.append_assoc]
              · show _ = _
                rw [HST.out, HA.out, List.append_assoc]
                rfl
              · rw [List.length_append, List.length_append]
                have : (Lib.itoa i.imm).length ≤ 50 := hol
                simp only [List.length_cons, List.length_nil] at this ⊢
                omega
            case measure => simp [intOf]; omega
          · have hcz : (((bsl L)[j]'hltb).toNat : Int) = 117 := by rw [hcb]; rfl
            have hsz : (bsl (Lib.itoa i.imm)).size ≤ 50 := by rw [bsl_size]; exact hol
            clear hcb
            go_wp2_with fail
            refine (HIM.out _).mono ?_
            rintro e w5 ⟨rfl, hb5⟩
            have HB5 := Lib.hid (HB.out.trans (hb5.mono HB.out.size))
            clear hb5
            have hov : ∀ X : ByteArray, X = bsl (A ++ ([44, 32] ++ (Lib.itoa i.imm))) → Value.string X = .string (bsl (A ++ ([44, 32] ++ (Lib.itoa i.imm)))) := fun X q => congrArg Value.string q
            go_wp2
            go_roundw
            case rel =>
              refine ⟨j + 1, A ++ ([44, 32] ++ (Lib.itoa i.imm)), by omega, by go_num, hov _ ?_, ?_, ?_, HB5.out⟩
              · show bsl A ++ (⟨#[44, 32]⟩ : ByteArray) ++ bsl (Lib.itoa i.imm) = _
                rw [show (⟨#[44, 32]⟩ : ByteArray) = bsl [44, 32] from rfl, bsl_app, bsl_app, List.append_assoc]
              · show _ = _
                rw [HST.out, HA.out, List.append_assoc]
                rfl
              · rw [List.length_append, List.length_append]
                have : (Lib.itoa i.imm).length ≤ 50 := hol
                simp only [List.length_cons, List.length_nil] at this ⊢
                omega
            case measure => simp [intOf]; omega
          · have hcz : (((bsl L)[j]'hltb).toNat : Int) = 106 := by rw [hcb]; rfl
            have hsz : (bsl (Lib.itoa i.imm)).size ≤ 50 := by rw [bsl_size]; exact hol
            clear hcb
            go_wp2_with fail
            refine (HIM.out _).mono ?_
            rintro e w5 ⟨rfl, hb5⟩
            have HB5 := Lib.hid (HB.out.trans (hb5.mono HB.out.size))
            clear hb5
            have hov : ∀ X : ByteArray, X = bsl (A ++ ([44, 32] ++ (Lib.itoa i.imm))) → Value.string X = .string (bsl (A ++ ([44, 32] ++ (Lib.itoa i.imm)))) := fun X q => congrArg Value.string q
            go_wp2
            go_roundw
            case rel =>
              refine ⟨j + 1, A ++ ([44, 32] ++ (Lib.itoa i.imm)), by omega, by go_num, hov _ ?_, ?_, ?_, HB5.out⟩
              · show bsl A ++ (⟨#[44, 32]⟩ : ByteArray) ++ bsl (Lib.itoa i.imm) = _
                rw [show (⟨#[44, 32]⟩ : ByteArray) = bsl [44, 32] from rfl, bsl_app, bsl_app, List.append_assoc]
              · show _ = _
                rw [HST.out, HA.out, List.append_assoc]
                rfl
              · rw [List.length_append, List.length_append]
                have : (Lib.itoa i.imm).length ≤ 50 := hol
                simp only [List.length_cons, List.length_nil] at this ⊢
                omega
            case measure => simp [intOf]; omega
      · have HFIN : Hid (A = textB i) := by show _ = _; rw [HT.out, HA.out, List.take_of_length_le (by omega)]
        have HBW := Lib.hid (HB2.out.trans (HB.out.mono HB2.out.size))
        go_wp2
        go_ret
        exact ⟨by rw [← HFIN.out]; rfl, HBW.out⟩
  · go_wp2_with fail
    generalize w1.alloc (.cells #[.string (bsl (nameB k)), .int .i64 (majorN k : Int), .int .i64 (minorN k : Int), .string (bsl (fieldsB k)), .string (bsl L), .string (bsl (kindB k))] 65) = w2 at *
    generalize w1.heap.size = rb at *
    clear c0 c1 c2 c3 c4 d0 d1 d2 d3 d4 d5 hL
    go_loopw [4, 6] (fun ov kv wr => ∃ (j : Nat) (A : List UInt8), j ≤ L.length ∧ kv = .int .i64 (j : Int) ∧ ov = .string (bsl A) ∧ Hid (A = nameB k ++ preT i (L.take j)) ∧ A.length ≤ 10 + 60 * j ∧ Below w2.heap.size w2 wr) (fun _ kv _ => L.length - (intOf kv).toNat)
    case atStart => exact ⟨0, nameB k, Nat.zero_le _, rfl, rfl, by show _ = _; simp [preT], by omega, Below.refl _ _⟩
    case round =>
      obtain ⟨j, A, hj, rfl, rfl, HA, hAl, hb⟩ := hrel
      have hFr := HF2.out.below hb hlF
      have h6r := H62.out.below hb hl6
      obtain ⟨c0, c1, c2, c3, c4⟩ := hFr.cells
      obtain ⟨d0, d1, d2, d3, d4, d5⟩ := h6r.cells
      have HB := Lib.hid hb
      have hA1 := bsl_size A
      have hL1 := bsl_size L
      clear hFr h6r hb
      by_cases hlt : j < L.length
      · have hltb : j < (bsl L).size := by rw [bsl_size]; exact hlt
        obtain ⟨c, hc⟩ : ∃ c, L[j]'hlt = c := ⟨_, rfl⟩
        have hcm : c ∈ opLetters := hc ▸ HOL.out _ (List.getElem_mem hlt)
        have HST0 : Hid (preT i (L.take (j + 1)) = preT i (L.take j) ++ (sepT j ++ opdB i c)) := by
          show _ = _
          rw [List.take_succ_eq_append_getElem hlt, hc, preT_step, List.length_take, Nat.min_eq_left (by omega)]
        have hol := HLEN.out c
        have hcb : (bsl L)[j]'hltb = c := by rw [bsl_get]; exact hc
        clear hc
        simp only [opLetters, List.mem_cons, List.not_mem_nil, or_false] at hcm
        by_cases hj0 : j = 0
        · have HST : Hid (preT i (L.take (j + 1)) = preT i (L.take j) ++ ([32] ++ opdB i c)) := by show _ = _; rw [HST0.out]; unfold sepT; rw [if_pos hj0]
          have hj0' : ((j : Int) == 0) = true := by rw [hj0]; rfl
          clear hj0 HST0
          rcases hcm with rfl | rfl | rfl | rfl | rfl | rfl | rfl | rfl
          · have hcz : (((bsl L)[j]'hltb).toNat : Int) = 83 := by rw [hcb]; rfl
            have hsz : (bsl (36 :: Lib.itoa i.s)).size ≤ 50 := by rw [bsl_size]; exact hol
            clear hcb
            go_wp2_with fail
            refine (HS.out _).mono ?_
            rintro e w5 ⟨rfl, hb5⟩
            have HB5 := Lib.hid (HB.out.trans (hb5.mono HB.out.size))
            clear hb5
            have hov : ∀ X : ByteArray, X = bsl (A ++ ([32] ++ (36 :: Lib.itoa i.s))) → Value.string X = .string (bsl (A ++ ([32] ++ (36 :: Lib.itoa i.s)))) := fun X q => congrArg Value.string q
            go_wp2
            go_roundw
            case rel =>
              refine ⟨j + 1, A ++ ([32] ++ (36 :: Lib.itoa i.s)), by omega, by go_num, hov _ ?_, ?_, ?_, HB5.out⟩
              · show bsl A ++ (⟨#[32]⟩ : ByteArray) ++ bsl (36 :: Lib.itoa i.s) = _
                rw [show (⟨#[32]⟩ : ByteArray) = bsl [32] from rfl, bsl_app, bsl_app, List.append_assoc]
              · show _ = _
                rw [HST.out, HA.out, List.append_assoc]
                rfl
              · rw [List.length_append, List.length_append]
                have : (36 :: Lib.itoa i.s).length ≤ 50 := hol
                simp only [List.length_cons, List.length_nil] at this ⊢
                omega
            case measure => simp [intOf]; omega
          · have hcz : (((bsl L)[j]'hltb).toNat : Int) = 84 := by rw [hcb]; rfl
            have hsz : (bsl (36 :: Lib.itoa i.t)).size ≤ 50 := by rw [bsl_size]; exact hol
            clear hcb
            go_wp2_with fail
            refine (HTT.out _).mono ?_
            rintro e w5 ⟨rfl, hb5⟩
            have HB5 := Lib.hid (HB.out.trans (hb5.mono HB.out.size))
            clear hb5
            have hov : ∀ X : ByteArray, X = bsl (A ++ ([32] ++ (36 :: Lib.itoa i.t))) → Value.string X = .string (bsl (A ++ ([32] ++ (36 :: Lib.itoa i.t)))) := fun X q => congrArg Value.string q
            go_wp2
            go_roundw
            case rel =>
              refine ⟨j + 1, A ++ ([32] ++ (36 :: Lib.itoa i.t)), by omega, by go_num, hov _ ?_, ?_, ?_, HB5.out⟩
              · show bsl A ++ (⟨#[32]⟩ : ByteArray) ++ bsl (36 :: Lib.itoa i.t) = _
                rw [show (⟨#[32]⟩ : ByteArray) = bsl [32] from rfl, bsl_app, bsl_app, List.append_assoc]
              · show _ = _
                rw [HST.out, HA.out, List.append_assoc]
                rfl
              · rw [List.length_append, List.length_append]
                have : (36 :: Lib.itoa i.t).length ≤ 50 := hol
                simp only [List.length_cons, List.length_nil] at this ⊢
                omega
            case measure => simp [intOf]; omega
          · have hcz : (((bsl L)[j]'hltb).toNat : Int) = 68 := by rw [hcb]; rfl
            have hsz : (bsl (36 :: Lib.itoa i.d)).size ≤ 50 := by rw [bsl_size]; exact hol
            clear hcb
            go_wp2_with fail
            refine (HD.out _).mono ?_
            rintro e w5 ⟨rfl, hb5⟩
            have HB5 := Lib.hid (HB.out.trans (hb5.mono HB.out.size))
            clear hb5
            have hov : ∀ X : ByteArray, X = bsl (A ++ ([32] ++ (36 :: Lib.itoa i.d))) → Value.string X = .string (bsl (A ++ ([32] ++ (36 :: Lib.itoa i.d)))) := fun X q => congrArg Value.string q
            go_wp2
            go_roundw
            case rel =>
              refine ⟨j + 1, A ++ ([32] ++ (36 :: Lib.itoa i.d)), by omega, by go_num, hov _ ?_, ?_, ?_, HB5.out⟩
              · show bsl A ++ (⟨#[32]⟩ : ByteArray) ++ bsl (36 :: Lib.itoa i.d) = _
                rw [show (⟨#[32]⟩ : ByteArray) = bsl [32] from rfl, bsl_app, bsl_app, List.append_assoc]
              · show _ = _
                rw [HST.out, HA.out, List.append_assoc]
                rfl
              · rw [List.length_append, List.length_append]
                have : (36 :: Lib.itoa i.d).length ≤ 50 := hol
                simp only [List.length_cons, List.length_nil] at this ⊢
                omega
            case measure => simp [intOf]; omega
          · have hcz : (((bsl L)[j]'hltb).toNat : Int) = 110 := by rw [hcb]; rfl
            have hsz : (bsl (Lib.itoa (immS i.imm))).size ≤ 50 := by rw [bsl_size]; exact hol
            clear hcb
            go_wp2_with fail
            refine (HIZ.out _).mono ?_
            rintro e w5 ⟨rfl, hb5⟩
            have HB5 := Lib.hid (HB.out.trans (hb5.mono HB.out.size))
            clear hb5
            have hov : ∀ X : ByteArray, X = bsl (A ++ ([32] ++ (Lib.itoa (immS i.imm)))) → Value.string X = .string (bsl (A ++ ([32] ++ (Lib.itoa (immS i.imm))))) := fun X q => congrArg Value.string q
            go_wp2
            go_roundw
            case rel =>
              refine ⟨j + 1, A ++ ([32] ++ (Lib.itoa (immS i.imm))), by omega, by go_num, hov _ ?_, ?_, ?_, HB5.out⟩
              · show bsl A ++ (⟨#[32]⟩ : ByteArray) ++ bsl (Lib.itoa (immS i.imm)) = _
                rw [show (⟨#[32]⟩ : ByteArray) = bsl [32] from rfl, bsl_app, bsl_app, List.append_assoc]
              · show _ = _
                rw [HST.out, HA.out, List.append_assoc]
                rfl
              · rw [List.length_append, List.length_append]
                have : (Lib.itoa (immS i.imm)).length ≤ 50 := hol
                simp only [List.length_cons, List.length_nil] at this ⊢
                omega
            case measure => simp [intOf]; omega
          · have hcz : (((bsl L)[j]'hltb).toNat : Int) = 109 := by rw [hcb]; rfl
            have hol2 : (Lib.itoa (immS i.imm) ++ ([40, 36] ++ (Lib.itoa i.s ++ [41]))).length ≤ 50 := hol
            simp only [List.length_append, List.length_cons, List.length_nil] at hol2
            have hsz1 : (bsl (Lib.itoa (immS i.imm))).size ≤ 50 := by rw [bsl_size]; omega
            have hsz2 : (bsl (36 :: Lib.itoa i.s)).size ≤ 50 := by rw [bsl_size]; simp; omega
            have hx : (bsl A ++ (⟨#[32]⟩ : ByteArray)).size ≤ 300 := by rw [ByteArray.size_append]; have : (⟨#[32]⟩ : ByteArray).size = 1 := rfl; omega
            clear hcb hol2
            go_wp2_with fail
            have hX : bsl A ++ (⟨#[32]⟩ : ByteArray) = bsl (A ++ [32]) := bsl_app A [32]
            have HX := Lib.hid hX
            clear hX
            generalize bsl A ++ (⟨#[32]⟩ : ByteArray) = X at *
            have q40 : (⟨#[40]⟩ : ByteArray).size = 1 := rfl
            have q41 : (⟨#[41]⟩ : ByteArray).size = 1 := rfl
            have a1 : ∀ w, (Op.stringOp .add X (bsl (Lib.itoa (immS i.imm)))).run Tryz.prog w = .ok (.string (X ++ bsl (Lib.itoa (immS i.imm)))) w := fun _ => run_string_add_sum _ _ _ (by omega)
            have a2 : ∀ w, (Op.stringOp .add (X ++ bsl (Lib.itoa (immS i.imm))) ⟨#[40]⟩).run Tryz.prog w = .ok (.string (X ++ bsl (Lib.itoa (immS i.imm)) ++ ⟨#[40]⟩)) w := fun _ => run_string_add_sum _ _ _ (by rw [ByteArray.size_append]; omega)
            have a3 : ∀ w, (Op.stringOp .add (X ++ bsl (Lib.itoa (immS i.imm)) ++ ⟨#[40]⟩) (bsl (36 :: Lib.itoa i.s))).run Tryz.prog w = .ok (.string (X ++ bsl (Lib.itoa (immS i.imm)) ++ ⟨#[40]⟩ ++ bsl (36 :: Lib.itoa i.s))) w := fun _ => run_string_add_sum _ _ _ (by rw [ByteArray.size_append, ByteArray.size_append]; omega)
            have a4 : ∀ w, (Op.stringOp .add (X ++ bsl (Lib.itoa (immS i.imm)) ++ ⟨#[40]⟩ ++ bsl (36 :: Lib.itoa i.s)) ⟨#[41]⟩).run Tryz.prog w = .ok (.string (X ++ bsl (Lib.itoa (immS i.imm)) ++ ⟨#[40]⟩ ++ bsl (36 :: Lib.itoa i.s) ++ ⟨#[41]⟩)) w := fun _ => run_string_add_sum _ _ _ (by rw [ByteArray.size_append, ByteArray.size_append, ByteArray.size_append]; omega)
            have hBr : Below wr.heap.size wr wr := Below.refl _ _
            clear c0 c2 c3 c4 d0 d1 d2 d3 d4 d5 q40 q41
            go_region_held3 (fun w' => (w'.cell? ⟨w.heap.size, 1, none⟩ = some (.int .i64 i.s) ∧ Below wr.heap.size wr w'))
              ((go_split_ands; refine ⟨?_, ?_⟩ <;> (first | assumption | (rw [hb9.cell (World.block_lt_of_cell? _ _ (by assumption))]; assumption) | exact Below.drew (by assumption) | exact Below.trans (by assumption) (hb9.mono (Below.size (by assumption))) | (simp [go_sem, *]; done))))
              (first | (go_at_call 15; refine (HIZ.out _).mono ?_; rintro e w' ⟨rfl, hb9⟩) | (go_at_call 37; refine (HS.out _).mono ?_; rintro e w' ⟨rfl, hb9⟩))
            go_split_ands
            have hb5 : Below wr.heap.size wr w' := by assumption
            have HB5 := Lib.hid (HB.out.trans (hb5.mono HB.out.size))
            clear hb5
            have hov : ∀ X : ByteArray, X = bsl (A ++ ([32] ++ (Lib.itoa (immS i.imm) ++ ([40, 36] ++ (Lib.itoa i.s ++ [41]))))) → Value.string X = .string (bsl (A ++ ([32] ++ (Lib.itoa (immS i.imm) ++ ([40, 36] ++ (Lib.itoa i.s ++ [41])))))) := fun X q => congrArg Value.string q
            go_wp2
            go_roundw
            case rel =>
              refine ⟨j + 1, A ++ ([32] ++ (Lib.itoa (immS i.imm) ++ ([40, 36] ++ (Lib.itoa i.s ++ [41])))), by omega, by go_num, hov _ ?_, ?_, ?_, HB5.out⟩
              · show X ++ bsl (Lib.itoa (immS i.imm)) ++ (⟨#[40]⟩ : ByteArray) ++ bsl (36 :: Lib.itoa i.s) ++ (⟨#[41]⟩ : ByteArray) = _
                rw [HX.out, show (⟨#[40]⟩ : ByteArray) = bsl [40] from rfl, show (⟨#[41]⟩ : ByteArray) = bsl [41] from rfl, bsl_app, bsl_app, bsl_app, bsl_app]
                congr 1
                simp
              · show _ = _
                rw [HST.out, HA.out, List.append_assoc]
                rfl
              · rw [List.length_append, List.length_append]
                have : (Lib.itoa (immS i.imm) ++ ([40, 36] ++ (Lib.itoa i.s ++ [41]))).length ≤ 50 := hol
                simp only [List.length_cons, List.length_nil, List.length_append] at this ⊢
                omega
            case measure => simp [intOf]; omega
          · have hcz : (((bsl L)[j]'hltb).toNat : Int) = 97 := by rw [hcb]; rfl
            have hsz : (bsl (Lib.itoa i.imm)).size ≤ 50 := by rw [bsl_size]; exact hol
            clear hcb
            go_wp2_with fail
            refine (HIM.out _).mono ?_
            rintro e w5 ⟨rfl, hb5⟩
            have HB5 := Lib.hid (HB.out.trans (hb5.mono HB.out.size))
            clear hb5
            have hov : ∀ X : ByteArray, X = bsl (A ++ ([32] ++ (Lib.itoa i.imm))) → Value.string X = .string (bsl (A ++ ([32] ++ (Lib.itoa i.imm)))) := fun X q => congrArg Value.string q
            go_wp2
            go_roundw
            case rel =>
              refine ⟨j + 1, A ++ ([32] ++ (Lib.itoa i.imm)), by omega, by go_num, hov _ ?_, ?_, ?_, HB5.out⟩
              · show bsl A ++ (⟨#[32]⟩ : ByteArray) ++ bsl (Lib.itoa i.imm) = _
                rw [show (⟨#[32]⟩ : ByteArray) = bsl [32] from rfl, bsl_app, bsl_app, List.append_assoc]
              · show _ = _
                rw [HST.out, HA.out, List.append_assoc]
                rfl
              · rw [List.length_append, List.length_append]
                have : (Lib.itoa i.imm).length ≤ 50 := hol
                simp only [List.length_cons, List.length_nil] at this ⊢
                omega
            case measure => simp [intOf]; omega
          · have hcz : (((bsl L)[j]'hltb).toNat : Int) = 117 := by rw [hcb]; rfl
            have hsz : (bsl (Lib.itoa i.imm)).size ≤ 50 := by rw [bsl_size]; exact hol
            clear hcb
            go_wp2_with fail
            refine (HIM.out _).mono ?_
            rintro e w5 ⟨rfl, hb5⟩
            have HB5 := Lib.hid (HB.out.trans (hb5.mono HB.out.size))
            clear hb5
            have hov : ∀ X : ByteArray, X = bsl (A ++ ([32] ++ (Lib.itoa i.imm))) → Value.string X = .string (bsl (A ++ ([32] ++ (Lib.itoa i.imm)))) := fun X q => congrArg Value.string q
            go_wp2
            go_roundw
            case rel =>
              refine ⟨j + 1, A ++ ([32] ++ (Lib.itoa i.imm)), by omega, by go_num, hov _ ?_, ?_, ?_, HB5.out⟩
              · show bsl A ++ (⟨#[32]⟩ : ByteArray) ++ bsl (Lib.itoa i.imm) = _
                rw [show (⟨#[32]⟩ : ByteArray) = bsl [32] from rfl, bsl_app, bsl_app, List.append_assoc]
              · show _ = _
                rw [HST.out, HA.out, List.append_assoc]
                rfl
              · rw [List.length_append, List.length_append]
                have : (Lib.itoa i.imm).length ≤ 50 := hol
                simp only [List.length_cons, List.length_nil] at this ⊢
                omega
            case measure => simp [intOf]; omega
          · have hcz : (((bsl L)[j]'hltb).toNat : Int) = 106 := by rw [hcb]; rfl
            have hsz : (bsl (Lib.itoa i.imm)).size ≤ 50 := by rw [bsl_size]; exact hol
            clear hcb
            go_wp2_with fail
            refine (HIM.out _).mono ?_
            rintro e w5 ⟨rfl, hb5⟩
            have HB5 := Lib.hid (HB.out.trans (hb5.mono HB.out.size))
            clear hb5
            have hov : ∀ X : ByteArray, X = bsl (A ++ ([32] ++ (Lib.itoa i.imm))) → Value.string X = .string (bsl (A ++ ([32] ++ (Lib.itoa i.imm)))) := fun X q => congrArg Value.string q
            go_wp2
            go_roundw
            case rel =>
              refine ⟨j + 1, A ++ ([32] ++ (Lib.itoa i.imm)), by omega, by go_num, hov _ ?_, ?_, ?_, HB5.out⟩
              · show bsl A ++ (⟨#[32]⟩ : ByteArray) ++ bsl (Lib.itoa i.imm) = _
                rw [show (⟨#[32]⟩ : ByteArray) = bsl [32] from rfl, bsl_app, bsl_app, List.append_assoc]
              · show _ = _
                rw [HST.out, HA.out, List.append_assoc]
                rfl
              · rw [List.length_append, List.length_append]
                have : (Lib.itoa i.imm).length ≤ 50 := hol
                simp only [List.length_cons, List.length_nil] at this ⊢
                omega
            case measure => simp [intOf]; omega
        · have HST : Hid (preT i (L.take (j + 1)) = preT i (L.take j) ++ ([44, 32] ++ opdB i c)) := by show _ = _; rw [HST0.out]; unfold sepT; rw [if_neg hj0]
          have hj0' : ((j : Int) == 0) = false := by exact beq_eq_false_iff_ne.2 (by omega)
          clear hj0 HST0
          rcases hcm with rfl | rfl | rfl | rfl | rfl | rfl | rfl | rfl
          · have hcz : (((bsl L)[j]'hltb).toNat : Int) = 83 := by rw [hcb]; rfl
            have hsz : (bsl (36 :: Lib.itoa i.s)).size ≤ 50 := by rw [bsl_size]; exact hol
            clear hcb
            go_wp2_with fail
            refine (HS.out _).mono ?_
            rintro e w5 ⟨rfl, hb5⟩
            have HB5 := Lib.hid (HB.out.trans (hb5.mono HB.out.size))
            clear hb5
            have hov : ∀ X : ByteArray, X = bsl (A ++ ([44, 32] ++ (36 :: Lib.itoa i.s))) → Value.string X = .string (bsl (A ++ ([44, 32] ++ (36 :: Lib.itoa i.s)))) := fun X q => congrArg Value.string q
            go_wp2
            go_roundw
            case rel =>
              refine ⟨j + 1, A ++ ([44, 32] ++ (36 :: Lib.itoa i.s)), by omega, by go_num, hov _ ?_, ?_, ?_, HB5.out⟩
              · show bsl A ++ (⟨#[44, 32]⟩ : ByteArray) ++ bsl (36 :: Lib.itoa i.s) = _
                rw [show (⟨#[44, 32]⟩ : ByteArray) = bsl [44, 32] from rfl, bsl_app, bsl_app, List.append_assoc]
              · show _ = _
                rw [HST.out, HA.out, List.append_assoc]
                rfl
              · rw [List.length_append, List.length_append]
                have : (36 :: Lib.itoa i.s).length ≤ 50 := hol
                simp only [List.length_cons, List.length_nil] at this ⊢
                omega
            case measure => simp [intOf]; omega
          · have hcz : (((bsl L)[j]'hltb).toNat : Int) = 84 := by rw [hcb]; rfl
            have hsz : (bsl (36 :: Lib.itoa i.t)).size ≤ 50 := by rw [bsl_size]; exact hol
            clear hcb
            go_wp2_with fail
            refine (HTT.out _).mono ?_
            rintro e w5 ⟨rfl, hb5⟩
            have HB5 := Lib.hid (HB.out.trans (hb5.mono HB.out.size))
            clear hb5
            have hov : ∀ X : ByteArray, X = bsl (A ++ ([44, 32] ++ (36 :: Lib.itoa i.t))) → Value.string X = .string (bsl (A ++ ([44, 32] ++ (36 :: Lib.itoa i.t)))) := fun X q => congrArg Value.string q
            go_wp2
            go_roundw
            case rel =>
              refine ⟨j + 1, A ++ ([44, 32] ++ (36 :: Lib.itoa i.t)), by omega, by go_num, hov _ ?_, ?_, ?_, HB5.out⟩
              · show bsl A ++ (⟨#[44, 32]⟩ : ByteArray) ++ bsl (36 :: Lib.itoa i.t) = _
                rw [show (⟨#[44, 32]⟩ : ByteArray) = bsl [44, 32] from rfl, bsl_app, bsl_app, List.append_assoc]
              · show _ = _
                rw [HST.out, HA.out, List.append_assoc]
                rfl
              · rw [List.length_append, List.length_append]
                have : (36 :: Lib.itoa i.t).length ≤ 50 := hol
                simp only [List.length_cons, List.length_nil] at this ⊢
                omega
            case measure => simp [intOf]; omega
          · have hcz : (((bsl L)[j]'hltb).toNat : Int) = 68 := by rw [hcb]; rfl
            have hsz : (bsl (36 :: Lib.itoa i.d)).size ≤ 50 := by rw [bsl_size]; exact hol
            clear hcb
            go_wp2_with fail
            refine (HD.out _).mono ?_
            rintro e w5 ⟨rfl, hb5⟩
            have HB5 := Lib.hid (HB.out.trans (hb5.mono HB.out.size))
            clear hb5
            have hov : ∀ X : ByteArray, X = bsl (A ++ ([44, 32] ++ (36 :: Lib.itoa i.d))) → Value.string X = .string (bsl (A ++ ([44, 32] ++ (36 :: Lib.itoa i.d)))) := fun X q => congrArg Value.string q
            go_wp2
            go_roundw
            case rel =>
              refine ⟨j + 1, A ++ ([44, 32] ++ (36 :: Lib.itoa i.d)), by omega, by go_num, hov _ ?_, ?_, ?_, HB5.out⟩
              · show bsl A ++ (⟨#[44, 32]⟩ : ByteArray) ++ bsl (36 :: Lib.itoa i.d) = _
                rw [show (⟨#[44, 32]⟩ : ByteArray) = bsl [44, 32] from rfl, bsl_app, bsl_app, List.append_assoc]
              · show _ = _
                rw [HST.out, HA.out, List.append_assoc]
                rfl
              · rw [List.length_append, List.length_append]
                have : (36 :: Lib.itoa i.d).length ≤ 50 := hol
                simp only [List.length_cons, List.length_nil] at this ⊢
                omega
            case measure => simp [intOf]; omega
          · have hcz : (((bsl L)[j]'hltb).toNat : Int) = 110 := by rw [hcb]; rfl
            have hsz : (bsl (Lib.itoa (immS i.imm))).size ≤ 50 := by rw [bsl_size]; exact hol
            clear hcb
            go_wp2_with fail
            refine (HIZ.out _).mono ?_
            rintro e w5 ⟨rfl, hb5⟩
            have HB5 := Lib.hid (HB.out.trans (hb5.mono HB.out.size))
            clear hb5
            have hov : ∀ X : ByteArray, X = bsl (A ++ ([44, 32] ++ (Lib.itoa (immS i.imm)))) → Value.string X = .string (bsl (A ++ ([44, 32] ++ (Lib.itoa (immS i.imm))))) := fun X q => congrArg Value.string q
            go_wp2
            go_roundw
            case rel =>
              refine ⟨j + 1, A ++ ([44, 32] ++ (Lib.itoa (immS i.imm))), by omega, by go_num, hov _ ?_, ?_, ?_, HB5.out⟩
              · show bsl A ++ (⟨#[44, 32]⟩ : ByteArray) ++ bsl (Lib.itoa (immS i.imm)) = _
                rw [show (⟨#[44, 32]⟩ : ByteArray) = bsl [44, 32] from rfl, bsl_app, bsl_app, List.append_assoc]
              · show _ = _
                rw [HST.out, HA.out, List.append_assoc]
                rfl
              · rw [List.length_append, List.length_append]
                have : (Lib.itoa (immS i.imm)).length ≤ 50 := hol
                simp only [List.length_cons, List.length_nil] at this ⊢
                omega
            case measure => simp [intOf]; omega
          · have hcz : (((bsl L)[j]'hltb).toNat : Int) = 109 := by rw [hcb]; rfl
            have hol2 : (Lib.itoa (immS i.imm) ++ ([40, 36] ++ (Lib.itoa i.s ++ [41]))).length ≤ 50 := hol
            simp only [List.length_append, List.length_cons, List.length_nil] at hol2
            have hsz1 : (bsl (Lib.itoa (immS i.imm))).size ≤ 50 := by rw [bsl_size]; omega
            have hsz2 : (bsl (36 :: Lib.itoa i.s)).size ≤ 50 := by rw [bsl_size]; simp; omega
            have hx : (bsl A ++ (⟨#[44, 32]⟩ : ByteArray)).size ≤ 300 := by rw [ByteArray.size_append]; have : (⟨#[44, 32]⟩ : ByteArray).size = 2 := rfl; omega
            clear hcb hol2
            go_wp2_with fail
            have hX : bsl A ++ (⟨#[44, 32]⟩ : ByteArray) = bsl (A ++ [44, 32]) := bsl_app A [44, 32]
            have HX := Lib.hid hX
            clear hX
            generalize bsl A ++ (⟨#[44, 32]⟩ : ByteArray) = X at *
            have q40 : (⟨#[40]⟩ : ByteArray).size = 1 := rfl
            have q41 : (⟨#[41]⟩ : ByteArray).size = 1 := rfl
            have a1 : ∀ w, (Op.stringOp .add X (bsl (Lib.itoa (immS i.imm)))).run Tryz.prog w = .ok (.string (X ++ bsl (Lib.itoa (immS i.imm)))) w := fun _ => run_string_add_sum _ _ _ (by omega)
            have a2 : ∀ w, (Op.stringOp .add (X ++ bsl (Lib.itoa (immS i.imm))) ⟨#[40]⟩).run Tryz.prog w = .ok (.string (X ++ bsl (Lib.itoa (immS i.imm)) ++ ⟨#[40]⟩)) w := fun _ => run_string_add_sum _ _ _ (by rw [ByteArray.size_append]; omega)
            have a3 : ∀ w, (Op.stringOp .add (X ++ bsl (Lib.itoa (immS i.imm)) ++ ⟨#[40]⟩) (bsl (36 :: Lib.itoa i.s))).run Tryz.prog w = .ok (.string (X ++ bsl (Lib.itoa (immS i.imm)) ++ ⟨#[40]⟩ ++ bsl (36 :: Lib.itoa i.s))) w := fun _ => run_string_add_sum _ _ _ (by rw [ByteArray.size_append, ByteArray.size_append]; omega)
            have a4 : ∀ w, (Op.stringOp .add (X ++ bsl (Lib.itoa (immS i.imm)) ++ ⟨#[40]⟩ ++ bsl (36 :: Lib.itoa i.s)) ⟨#[41]⟩).run Tryz.prog w = .ok (.string (X ++ bsl (Lib.itoa (immS i.imm)) ++ ⟨#[40]⟩ ++ bsl (36 :: Lib.itoa i.s) ++ ⟨#[41]⟩)) w := fun _ => run_string_add_sum _ _ _ (by rw [ByteArray.size_append, ByteArray.size_append, ByteArray.size_append]; omega)
            have hBr : Below wr.heap.size wr wr := Below.refl _ _
            clear c0 c2 c3 c4 d0 d1 d2 d3 d4 d5 q40 q41
            go_region_held3 (fun w' => (w'.cell? ⟨w.heap.size, 1, none⟩ = some (.int .i64 i.s) ∧ Below wr.heap.size wr w'))
              ((go_split_ands; refine ⟨?_, ?_⟩ <;> (first | assumption | (rw [hb9.cell (World.block_lt_of_cell? _ _ (by assumption))]; assumption) | exact Below.drew (by assumption) | exact Below.trans (by assumption) (hb9.mono (Below.size (by assumption))) | (simp [go_sem, *]; done))))
              (first | (go_at_call 15; refine (HIZ.out _).mono ?_; rintro e w' ⟨rfl, hb9⟩) | (go_at_call 37; refine (HS.out _).mono ?_; rintro e w' ⟨rfl, hb9⟩))
            go_split_ands
            have hb5 : Below wr.heap.size wr w' := by assumption
            have HB5 := Lib.hid (HB.out.trans (hb5.mono HB.out.size))
            clear hb5
            have hov : ∀ X : ByteArray, X = bsl (A ++ ([44, 32] ++ (Lib.itoa (immS i.imm) ++ ([40, 36] ++ (Lib.itoa i.s ++ [41]))))) → Value.string X = .string (bsl (A ++ ([44, 32] ++ (Lib.itoa (immS i.imm) ++ ([40, 36] ++ (Lib.itoa i.s ++ [41])))))) := fun X q => congrArg Value.string q
            go_wp2
            go_roundw
            case rel =>
              refine ⟨j + 1, A ++ ([44, 32] ++ (Lib.itoa (immS i.imm) ++ ([40, 36] ++ (Lib.itoa i.s ++ [41])))), by omega, by go_num, hov _ ?_, ?_, ?_, HB5.out⟩
              · show X ++ bsl (Lib.itoa (immS i.imm)) ++ (⟨#[40]⟩ : ByteArray) ++ bsl (36 :: Lib.itoa i.s) ++ (⟨#[41]⟩ : ByteArray) = _
                rw [HX.out, show (⟨#[40]⟩ : ByteArray) = bsl [40] from rfl, show (⟨#[41]⟩ : ByteArray) = bsl [41] from rfl, bsl_app, bsl_app, bsl_app, bsl_app]
                congr 1
                simp
              · show _ = _
                rw [HST.out, HA.out, List.append_assoc]
                rfl
              · rw [List.length_append, List.length_append]
                have : (Lib.itoa (immS i.imm) ++ ([40, 36] ++ (Lib.itoa i.s ++ [41]))).length ≤ 50 := hol
                simp only [List.length_cons, List.length_nil, List.length_append] at this ⊢
                omega
            case measure => simp [intOf]; omega
          · have hcz : (((bsl L)[j]'hltb).toNat : Int) = 97 := by rw [hcb]; rfl
            have hsz : (bsl (Lib.itoa i.imm)).size ≤ 50 := by rw [bsl_size]; exact hol
            clear hcb
            go_wp2_with fail
            refine (HIM.out _).mono ?_
            rintro e w5 ⟨rfl, hb5⟩
            have HB5 := Lib.hid (HB.out.trans (hb5.mono HB.out.size))
            clear hb5
            have hov : ∀ X : ByteArray, X = bsl (A ++ ([44, 32] ++ (Lib.itoa i.imm))) → Value.string X = .string (bsl (A ++ ([44, 32] ++ (Lib.itoa i.imm)))) := fun X q => congrArg Value.string q
            go_wp2
            go_roundw
            case rel =>
              refine ⟨j + 1, A ++ ([44, 32] ++ (Lib.itoa i.imm)), by omega, by go_num, hov _ ?_, ?_, ?_, HB5.out⟩
              · show bsl A ++ (⟨#[44, 32]⟩ : ByteArray) ++ bsl (Lib.itoa i.imm) = _
                rw [show (⟨#[44, 32]⟩ : ByteArray) = bsl [44, 32] from rfl, bsl_app, bsl_app, List.append_assoc]
              · show _ = _
                rw [HST.out, HA.out, List.append_assoc]
                rfl
              · rw [List.length_append, List.length_append]
                have : (Lib.itoa i.imm).length ≤ 50 := hol
                simp only [List.length_cons, List.length_nil] at this ⊢
                omega
            case measure => simp [intOf]; omega
          · have hcz : (((bsl L)[j]'hltb).toNat : Int) = 117 := by rw [hcb]; rfl
            have hsz : (bsl (Lib.itoa i.imm)).size ≤ 50 := by rw [bsl_size]; exact hol
            clear hcb
            go_wp2_with fail
            refine (HIM.out _).mono ?_
            rintro e w5 ⟨rfl, hb5⟩
            have HB5 := Lib.hid (HB.out.trans (hb5.mono HB.out.size))
            clear hb5
            have hov : ∀ X : ByteArray, X = bsl (A ++ ([44, 32] ++ (Lib.itoa i.imm))) → Value.string X = .string (bsl (A ++ ([44, 32] ++ (Lib.itoa i.imm)))) := fun X q => congrArg Value.string q
            go_wp2
            go_roundw
            case rel =>
              refine ⟨j + 1, A ++ ([44, 32] ++ (Lib.itoa i.imm)), by omega, by go_num, hov _ ?_, ?_, ?_, HB5.out⟩
              · show bsl A ++ (⟨#[44, 32]⟩ : ByteArray) ++ bsl (Lib.itoa i.imm) = _
                rw [show (⟨#[44, 32]⟩ : ByteArray) = bsl [44, 32] from rfl, bsl_app, bsl_app, List.append_assoc]
              · show _ = _
                rw [HST.out, HA.out, List.append_assoc]
                rfl
              · rw [List.length_append, List.length_append]
                have : (Lib.itoa i.imm).length ≤ 50 := hol
                simp only [List.length_cons, List.length_nil] at this ⊢
                omega
            case measure => simp [intOf]; omega
          · have hcz : (((bsl L)[j]'hltb).toNat : Int) = 106 := by rw [hcb]; rfl
            have hsz : (bsl (Lib.itoa i.imm)).size ≤ 50 := by rw [bsl_size]; exact hol
            clear hcb
            go_wp2_with fail
            refine (HIM.out _).mono ?_
            rintro e w5 ⟨rfl, hb5⟩
            have HB5 := Lib.hid (HB.out.trans (hb5.mono HB.out.size))
            clear hb5
            have hov : ∀ X : ByteArray, X = bsl (A ++ ([44, 32] ++ (Lib.itoa i.imm))) → Value.string X = .string (bsl (A ++ ([44, 32] ++ (Lib.itoa i.imm)))) := fun X q => congrArg Value.string q
            go_wp2
            go_roundw
            case rel =>
              refine ⟨j + 1, A ++ ([44, 32] ++ (Lib.itoa i.imm)), by omega, by go_num, hov _ ?_, ?_, ?_, HB5.out⟩
              · show bsl A ++ (⟨#[44, 32]⟩ : ByteArray) ++ bsl (Lib.itoa i.imm) = _
                rw [show (⟨#[44, 32]⟩ : ByteArray) = bsl [44, 32] from rfl, bsl_app, bsl_app, List.append_assoc]
              · show _ = _
                rw [HST.out, HA.out, List.append_assoc]
                rfl
              · rw [List.length_append, List.length_append]
                have : (Lib.itoa i.imm).length ≤ 50 := hol
                simp only [List.length_cons, List.length_nil] at this ⊢
                omega
            case measure => simp [intOf]; omega
      · have HFIN : Hid (A = textB i) := by show _ = _; rw [HT.out, HA.out, List.take_of_length_le (by omega)]
        have HBW := Lib.hid (HB2.out.trans (HB.out.mono HB2.out.size))
        go_wp2
        go_ret
        exact ⟨by rw [← HFIN.out]; rfl, HBW.out⟩
end Go.Proofs.YtnppegldebocmaaGreatDoor
