/- The walks of the document's NumberAt and registerAt. Conditions: as each theorem states. -/
import Derived.Test.YtnppegldebocmaaGreatDoorWordsW
namespace Go.Proofs.YtnppegldebocmaaGreatDoor
open Go.RowKit
set_option linter.unusedVariables false
def numR (o : Option (Int × List UInt8)) (n : Nat) : Int × Int := match o with | none => (0, -1) | some (v, r) => (v, (n : Int) - (r.length : Int))
theorem scan_as (t r : List UInt8) (m : Bool) (hm : (t.head? == some 45) = m) (hr : (if m = true then t.drop 1 else t) = r) : scanNum t = if r.takeWhile isDig = [] ∨ 10 < (r.takeWhile isDig).length ∨ ((r.takeWhile isDig).head? = some 48 ∧ (1 < (r.takeWhile isDig).length ∨ m = true)) then none else some (sgn m (valL (r.takeWhile isDig)), r.drop (r.takeWhile isDig).length) := by
  unfold scanNum
  simp only [hm, hr]
theorem take_at (l : List UInt8) (j : Nat) (h : j < (l.takeWhile isDig).length) (h2 : j < l.length) : isDig l[j] = true ∧ (l.takeWhile isDig)[j] = l[j] := by
  have hp : l.takeWhile isDig <+: l := List.takeWhile_prefix _
  have he : (l.takeWhile isDig)[j] = l[j] := hp.getElem h
  obtain ⟨t, h1, _, _⟩ := drop_take l
  refine ⟨?_, he⟩
  rw [← he]
  have hall : ∀ (l : List UInt8), ∀ c ∈ l.takeWhile isDig, isDig c = true := by
    intro l
    induction l with
    | nil => intro c hc; cases hc
    | cons x l ih =>
      intro c hc
      cases hx : isDig x
      · simp [hx] at hc
      · simp only [List.takeWhile, hx, List.mem_cons] at hc
        rcases hc with rfl | hc
        · exact hx
        · exact ih c hc
  exact hall l _ (List.getElem_mem h)
theorem take_end (l : List UInt8) : (l.takeWhile isDig).length = l.length ∨ ∃ h : (l.takeWhile isDig).length < l.length, isDig l[(l.takeWhile isDig).length] = false := by
  obtain ⟨t, h1, h2, h3⟩ := drop_take l
  rcases h3 with rfl | ⟨c, u, rfl, hc⟩
  · left
    have := congrArg List.length h1
    simpa using this.symm
  · right
    have hl : (l.takeWhile isDig).length < l.length := by
      have := congrArg List.length h1
      rw [List.length_append, List.length_cons] at this
      omega
    refine ⟨hl, ?_⟩
    have := List.drop_eq_getElem_cons hl
    rw [h2] at this
    rw [← (List.cons.inj this).1]
    exact hc
theorem val_bound (ds : List UInt8) (h : ∀ c ∈ ds, isDig c = true) (hl : ds.length ≤ 11) : (valL ds : Int) ≤ 99999999999 := by
  have h1 := val_lt ds 0 h
  have h2 : (0 + 1) * 10 ^ ds.length ≤ 100000000000 := by
    rw [Nat.zero_add, Nat.one_mul]
    exact Nat.le_trans (Nat.pow_le_pow_right (by decide) hl) (by decide)
  have h3 : valL ds < 100000000000 := Nat.lt_of_lt_of_le h1 h2
  omega
theorem dig_all (l : List UInt8) : ∀ c ∈ l.takeWhile isDig, isDig c = true := by
  intro c hc
  obtain ⟨j, hj, rfl⟩ := List.getElem_of_mem hc
  have hp : l.takeWhile isDig <+: l := List.takeWhile_prefix _
  have hj2 : j < l.length := Nat.lt_of_lt_of_le hj hp.length_le
  obtain ⟨h1, h2⟩ := take_at l j hj hj2
  rw [h2]
  exact h1
set_option maxHeartbeats 2000000 in
theorem num_minus (s : List UInt8) (hl : s.length ≤ 100) (at' : Nat) (ha : (at' : Int) < (s.length : Int)) (h45 : s[at']'(by omega) = 45) (w : World) :
    Calls Tryz.prog 40 #[.string (bsl s), .int .i64 (at' : Int)] w fun e w' => e = .returned (.tuple #[.int .i64 (numR (scanNum (s.drop at')) s.length).1, .int .i64 (numR (scanNum (s.drop at')) s.length).2]) ∧ w = w' := by
  have hsz := bsl_size s
  have hlt : at' < (bsl s).size := by omega
  have hy : ((((bsl s)[at']'hlt).toNat : Int) == 45) = true := by rw [bsl_get, h45]; rfl
  have hm : ((s.drop at').head? == some 45) = true := by
    rw [List.head?_drop, List.getElem?_eq_getElem (by omega), h45]; rfl
  obtain ⟨F, hF⟩ : ∃ F : Nat, F = at' + 1 := ⟨_, rfl⟩
  have hFl : F ≤ s.length := by omega
  have HS := Lib.hid (scan_as (s.drop at') (s.drop F) true hm (by rw [hF]; rw [if_pos rfl, List.drop_drop]))
  have hDl : (s.drop F).length = s.length - F := List.length_drop
  have HAT : Hid (∀ p (h : p < s.length), F ≤ p → p < F + ((s.drop F).takeWhile isDig).length → ∃ y, s[p] = y ∧ isDig y = true ∧ ∃ h2 : p - F < ((s.drop F).takeWhile isDig).length, ((s.drop F).takeWhile isDig)[p - F] = y) := by
    intro p h h1 h2
    have hj : p - F < ((s.drop F).takeWhile isDig).length := by omega
    obtain ⟨q1, q2⟩ := take_at (s.drop F) (p - F) hj (by rw [hDl]; omega)
    have e : (s.drop F)[p - F]'(by rw [hDl]; omega) = s[p] := by
      rw [List.getElem_drop]
      congr 1
      omega
    exact ⟨s[p], rfl, by rw [← e]; exact q1, hj, by rw [q2, e]⟩
  have HEND : Hid (F + ((s.drop F).takeWhile isDig).length = s.length ∨ ∃ h : F + ((s.drop F).takeWhile isDig).length < s.length, isDig s[F + ((s.drop F).takeWhile isDig).length] = false) := by
    show _ ∨ _
    rcases take_end (s.drop F) with e | ⟨h, e⟩
    · left; omega
    · right
      refine ⟨by omega, ?_⟩
      rw [List.getElem_drop] at e
      exact e
  have hle : ((s.drop F).takeWhile isDig).length ≤ s.length - F := by
    have hp : (s.drop F).takeWhile isDig <+: s.drop F := List.takeWhile_prefix _
    have := hp.length_le
    omega
  have HDR : Hid (((s.drop F).drop ((s.drop F).takeWhile isDig).length).length = s.length - F - ((s.drop F).takeWhile isDig).length) := by show _ = _; rw [List.length_drop, hDl]
  have HDIG := Lib.hid (dig_all (s.drop F))
  generalize (s.drop F).drop ((s.drop F).takeWhile isDig).length = rest at *
  generalize (s.drop F).takeWhile isDig = ds at *
  generalize scanNum (s.drop at') = sc at *
  have HF := Lib.hid hF
  clear hm hDl
  go_enter Tryz.func40, Tryz.ntmps40
  go_wp2_with fail
  have hFi : ((at' : Int) + 1 : Int) = (F : Int) := by rw [hF]; omega
  simp only [hFi]
  have hde : F + ds.length ≤ s.length := by omega
  clear hFi hF hy hle
  go_loop [7, 9] (fun kv nv => ∃ p : Nat, F ≤ p ∧ p ≤ F + ds.length ∧ p ≤ F + 11 ∧ kv = .int .i64 (p : Int) ∧ nv = .int .i64 ((valL (ds.take (p - F)) : Nat) : Int)) (fun kv _ => s.length - (intOf kv).toNat)
  case atStart => exact ⟨F, Nat.le_refl _, by omega, by omega, rfl, by rw [Nat.sub_self]; rfl⟩
  case round =>
    obtain ⟨p, hp0, hp1, hp2, rfl, rfl⟩ := hrel
    have hvb : ((valL (ds.take (p - F)) : Nat) : Int) ≤ 99999999999 := val_bound _ (fun c hc => HDIG.out c (List.mem_of_mem_take hc)) (by rw [List.length_take]; omega)
    by_cases hj : p < F + ds.length
    · have hps : p < s.length := by omega
      obtain ⟨y, y1, y2, y3, y4⟩ := HAT.out p hps hp0 hj
      have hlt : p < (bsl s).size := by omega
      have hg : (bsl s)[p]'hlt = y := by rw [bsl_get]; exact y1
      have ya : (48 : Int) ≤ (y.toNat : Int) := by have := (dig_iff y).1 y2; omega
      have yb : (y.toNat : Int) ≤ 57 := by have := (dig_iff y).1 y2; omega
      have hp' : (p : Int) < (s.length : Int) := by omega
      by_cases h10 : p - F ≤ 10
      · have h10' : (p : Int) - (F : Int) ≤ 10 := by omega
        have HV : Hid (valL (ds.take (p + 1 - F)) = valL (ds.take (p - F)) * 10 + (y.toNat - 48)) := by
          show _ = _
          have : ds.take (p + 1 - F) = ds.take (p - F) ++ [y] := by
            rw [show p + 1 - F = (p - F) + 1 by omega, List.take_succ_eq_append_getElem y3, y4]
          rw [this, valL_snoc]
        clear y1 y2 y4 hj
        generalize valL (ds.take (p - F)) = nn at *
        go_wp2
        go_round
        case rel => exact ⟨p + 1, by omega, by omega, by omega, by go_num, by rw [HV.out]; exact congrArg (Value.int .i64) (by omega)⟩
        case measure => simp [intOf]; omega
      · have h10' : (10 : Int) < (p : Int) - (F : Int) := by omega
        have hkF : ((p : Int) == (F : Int)) = false := beq_eq_false_iff_ne.2 (by omega)
        have HSC : Hid (sc = none) := by show _ = _; rw [HS.out, if_pos (Or.inr (Or.inl (by omega)))]
        clear y1 y2 y4 hj
        generalize valL (ds.take (p - F)) = nn at *
        have HRES : Hid (numR sc s.length = (0, -1)) := by show _ = _; rw [HSC.out]; rfl
        go_wp2
        go_ret2
        exact ⟨by rw [HRES.out]; rfl, rfl⟩
    · have hpe : p = F + ds.length := by omega
      have HPV : Hid (valL (ds.take (p - F)) = valL ds) := by show _ = _; rw [List.take_of_length_le (by omega)]
      have HEE : Hid (¬ (p : Int) < (s.length : Int) ∨ (∃ (h : p < (bsl s).size) (y : UInt8), (bsl s)[p]'h = y ∧ (y.toNat : Int) < 48 ∧ (p : Int) < (s.length : Int)) ∨ (∃ (h : p < (bsl s).size) (y : UInt8), (bsl s)[p]'h = y ∧ ((48 : Int) ≤ (y.toNat : Int) ∧ (57 : Int) < (y.toNat : Int)) ∧ (p : Int) < (s.length : Int))) := by
        show _ ∨ _
        rcases HEND.out with e | ⟨h, e⟩
        · left; omega
        · right
          have hps : p < s.length := by omega
          have hlt : p < (bsl s).size := by omega
          have e2 : isDig s[p] = false := by
            have : s[p] = s[F + ds.length] := by congr 1
            rw [this]; exact e
          by_cases q : 48 ≤ s[p].toNat
          · right
            refine ⟨hlt, s[p], bsl_get _ _ _, ⟨by omega, ?_⟩, by omega⟩
            have : ¬ s[p].toNat ≤ 57 := fun q2 => by rw [(dig_iff _).2 ⟨q, q2⟩] at e2; cases e2
            omega
          · left
            exact ⟨hlt, s[p], bsl_get _ _ _, by omega, by omega⟩
      by_cases h0 : ds.length = 0
      · have hz : ds = [] := List.eq_nil_of_length_eq_zero h0
        have hpF : p = F := by omega
        have HSC : Hid (sc = none) := by show _ = _; rw [HS.out, if_pos (Or.inl hz)]
        subst hpF
        have HRES : Hid (numR sc s.length = (0, -1)) := by show _ = _; rw [HSC.out]; rfl
        clear hpe
        clear h0 hz
        generalize valL (ds.take (p - p)) = nn at *
        rcases HEE.out with he | ⟨hlt2, y, hg, hya, hyb⟩ | ⟨hlt2, y, hg, hya, hyb⟩
        all_goals
          go_wp2
          all_goals
            go_ret2
            exact ⟨by rw [HRES.out]; rfl, rfl⟩
      · by_cases h11 : ds.length = 11
        · have hkF : ((p : Int) == (F : Int)) = false := beq_eq_false_iff_ne.2 (by omega)
          have h10' : (10 : Int) < (p : Int) - (F : Int) := by omega
          have HSC : Hid (sc = none) := by show _ = _; rw [HS.out, if_pos (Or.inr (Or.inl (by omega)))]
          have HRES : Hid (numR sc s.length = (0, -1)) := by show _ = _; rw [HSC.out]; rfl
          clear hpe
          clear h0
          generalize valL (ds.take (p - F)) = nn at *
          rcases HEE.out with he | ⟨hlt2, y, hg, hya, hyb⟩ | ⟨hlt2, y, hg, hya, hyb⟩
          all_goals
            go_wp2
            all_goals
              go_ret2
              exact ⟨by rw [HRES.out]; rfl, rfl⟩
        · obtain ⟨y0, z1, z2, z3, z4⟩ := HAT.out F (by omega) (Nat.le_refl _) (by omega)
          have hhd : ds.head? = some y0 := by
            have : ds[0]'(by omega) = y0 := by
              have e : ds[0]'(by omega) = ds[F - F]'z3 := by congr 1; omega
              rw [e]; exact z4
            rw [List.head?_eq_getElem?, List.getElem?_eq_getElem (by omega), this]
          by_cases hy0 : y0 = 48
          · have hkF : ((p : Int) == (F : Int)) = false := beq_eq_false_iff_ne.2 (by omega)
            have h10' : ¬ (10 : Int) < (p : Int) - (F : Int) := by omega
            have hltF : F < (bsl s).size := by omega
            have hgF : (bsl s)[F]'hltF = y0 := by rw [bsl_get]; exact z1
            have hF' : (F : Int) < (s.length : Int) := by omega
            have h48 : ((y0.toNat : Int) == 48) = true := by rw [hy0]; rfl
            have HSC : Hid (sc = none) := by show _ = _; rw [HS.out, if_pos (Or.inr (Or.inr ⟨by rw [hhd, hy0], Or.inr (by first | rfl | trivial)⟩))]
            have HRES : Hid (numR sc s.length = (0, -1)) := by show _ = _; rw [HSC.out]; rfl
            clear hpe
            clear h0 hhd hy0 z1 z2 z4 z3
            generalize y0 = yy at *
            generalize valL (ds.take (p - F)) = nn at *
            rcases HEE.out with he | ⟨hlt2, y, hg, hya, hyb⟩ | ⟨hlt2, y, hg, hya, hyb⟩
            all_goals
              go_wp2
              all_goals
                go_ret2
                exact ⟨by rw [HRES.out]; rfl, rfl⟩
          · have hkF : ((p : Int) == (F : Int)) = false := beq_eq_false_iff_ne.2 (by omega)
            have h10' : ¬ (10 : Int) < (p : Int) - (F : Int) := by omega
            have hltF : F < (bsl s).size := by omega
            have hgF : (bsl s)[F]'hltF = y0 := by rw [bsl_get]; exact z1
            have hF' : (F : Int) < (s.length : Int) := by omega
            have h48 : ((y0.toNat : Int) == 48) = false := beq_eq_false_iff_ne.2 fun e => hy0 (UInt8.toNat_inj.1 (by show _ = 48; omega))
            have HSC : Hid (sc = some (sgn true (valL ds), rest)) := by show _ = _; rw [HS.out, if_neg (fun q => by rcases q with q | q | q; exact absurd (by rw [q]; rfl) h0; omega; exact hy0 (by rw [hhd] at q; exact Option.some.inj q.1))]
            have HRES : Hid (numR sc s.length = (-((valL (ds.take (p - F)) : Nat) : Int), (p : Int))) := by
              show _ = _
              rw [HSC.out, HPV.out]
              show (_, (s.length : Int) - (rest.length : Int)) = _
              rw [HDR.out, show (s.length : Int) - ((s.length - F - ds.length : Nat) : Int) = (p : Int) by omega]
              rfl
            clear hpe
            clear h0 hhd hy0 z1 z2 z4 z3
            generalize y0 = yy at *
            generalize valL (ds.take (p - F)) = nn at *
            rcases HEE.out with he | ⟨hlt2, y, hg, hya, hyb⟩ | ⟨hlt2, y, hg, hya, hyb⟩
            all_goals
              go_wp2
              all_goals
                go_ret2
                exact ⟨by rw [HRES.out]; rfl, rfl⟩
set_option maxHeartbeats 2000000 in
theorem num_plain (s : List UInt8) (hl : s.length ≤ 100) (at' : Nat) (ha : (at' : Int) < (s.length : Int)) (h45 : ¬ s[at']'(by omega) = 45) (w : World) :
    Calls Tryz.prog 40 #[.string (bsl s), .int .i64 (at' : Int)] w fun e w' => e = .returned (.tuple #[.int .i64 (numR (scanNum (s.drop at')) s.length).1, .int .i64 (numR (scanNum (s.drop at')) s.length).2]) ∧ w = w' := by
  have hsz := bsl_size s
  have hlt : at' < (bsl s).size := by omega
  have hy : ((((bsl s)[at']'hlt).toNat : Int) == 45) = false := by
    rw [bsl_get]
    exact beq_eq_false_iff_ne.2 fun e => h45 (UInt8.toNat_inj.1 (by show _ = 45; omega))
  have hm : ((s.drop at').head? == some 45) = false := by
    rw [List.head?_drop, List.getElem?_eq_getElem (by omega)]
    exact beq_eq_false_iff_ne.2 fun e => h45 (Option.some.inj e)
  obtain ⟨F, hF⟩ : ∃ F : Nat, F = at' := ⟨_, rfl⟩
  have hFl : F ≤ s.length := by omega
  have HS := Lib.hid (scan_as (s.drop at') (s.drop F) false hm (by rw [hF]; rfl))
  have hDl : (s.drop F).length = s.length - F := List.length_drop
  have HAT : Hid (∀ p (h : p < s.length), F ≤ p → p < F + ((s.drop F).takeWhile isDig).length → ∃ y, s[p] = y ∧ isDig y = true ∧ ∃ h2 : p - F < ((s.drop F).takeWhile isDig).length, ((s.drop F).takeWhile isDig)[p - F] = y) := by
    intro p h h1 h2
    have hj : p - F < ((s.drop F).takeWhile isDig).length := by omega
    obtain ⟨q1, q2⟩ := take_at (s.drop F) (p - F) hj (by rw [hDl]; omega)
    have e : (s.drop F)[p - F]'(by rw [hDl]; omega) = s[p] := by
      rw [List.getElem_drop]
      congr 1
      omega
    exact ⟨s[p], rfl, by rw [← e]; exact q1, hj, by rw [q2, e]⟩
  have HEND : Hid (F + ((s.drop F).takeWhile isDig).length = s.length ∨ ∃ h : F + ((s.drop F).takeWhile isDig).length < s.length, isDig s[F + ((s.drop F).takeWhile isDig).length] = false) := by
    show _ ∨ _
    rcases take_end (s.drop F) with e | ⟨h, e⟩
    · left; omega
    · right
      refine ⟨by omega, ?_⟩
      rw [List.getElem_drop] at e
      exact e
  have hle : ((s.drop F).takeWhile isDig).length ≤ s.length - F := by
    have hp : (s.drop F).takeWhile isDig <+: s.drop F := List.takeWhile_prefix _
    have := hp.length_le
    omega
  have HDR : Hid (((s.drop F).drop ((s.drop F).takeWhile isDig).length).length = s.length - F - ((s.drop F).takeWhile isDig).length) := by show _ = _; rw [List.length_drop, hDl]
  have HDIG := Lib.hid (dig_all (s.drop F))
  generalize (s.drop F).drop ((s.drop F).takeWhile isDig).length = rest at *
  generalize (s.drop F).takeWhile isDig = ds at *
  generalize scanNum (s.drop at') = sc at *
  have HF := Lib.hid hF
  clear hm hDl
  go_enter Tryz.func40, Tryz.ntmps40
  go_wp2_with fail
  have hFi : ((at' : Int) : Int) = (F : Int) := by rw [hF]
  simp only [hFi]
  have hde : F + ds.length ≤ s.length := by omega
  clear hFi hF hy hle
  go_loop [7, 9] (fun kv nv => ∃ p : Nat, F ≤ p ∧ p ≤ F + ds.length ∧ p ≤ F + 11 ∧ kv = .int .i64 (p : Int) ∧ nv = .int .i64 ((valL (ds.take (p - F)) : Nat) : Int)) (fun kv _ => s.length - (intOf kv).toNat)
  case atStart => exact ⟨F, Nat.le_refl _, by omega, by omega, rfl, by rw [Nat.sub_self]; rfl⟩
  case round =>
    obtain ⟨p, hp0, hp1, hp2, rfl, rfl⟩ := hrel
    have hvb : ((valL (ds.take (p - F)) : Nat) : Int) ≤ 99999999999 := val_bound _ (fun c hc => HDIG.out c (List.mem_of_mem_take hc)) (by rw [List.length_take]; omega)
    by_cases hj : p < F + ds.length
    · have hps : p < s.length := by omega
      obtain ⟨y, y1, y2, y3, y4⟩ := HAT.out p hps hp0 hj
      have hlt : p < (bsl s).size := by omega
      have hg : (bsl s)[p]'hlt = y := by rw [bsl_get]; exact y1
      have ya : (48 : Int) ≤ (y.toNat : Int) := by have := (dig_iff y).1 y2; omega
      have yb : (y.toNat : Int) ≤ 57 := by have := (dig_iff y).1 y2; omega
      have hp' : (p : Int) < (s.length : Int) := by omega
      by_cases h10 : p - F ≤ 10
      · have h10' : (p : Int) - (F : Int) ≤ 10 := by omega
        have HV : Hid (valL (ds.take (p + 1 - F)) = valL (ds.take (p - F)) * 10 + (y.toNat - 48)) := by
          show _ = _
          have : ds.take (p + 1 - F) = ds.take (p - F) ++ [y] := by
            rw [show p + 1 - F = (p - F) + 1 by omega, List.take_succ_eq_append_getElem y3, y4]
          rw [this, valL_snoc]
        clear y1 y2 y4 hj
        generalize valL (ds.take (p - F)) = nn at *
        go_wp2
        go_round
        case rel => exact ⟨p + 1, by omega, by omega, by omega, by go_num, by rw [HV.out]; exact congrArg (Value.int .i64) (by omega)⟩
        case measure => simp [intOf]; omega
      · have h10' : (10 : Int) < (p : Int) - (F : Int) := by omega
        have hkF : ((p : Int) == (F : Int)) = false := beq_eq_false_iff_ne.2 (by omega)
        have HSC : Hid (sc = none) := by show _ = _; rw [HS.out, if_pos (Or.inr (Or.inl (by omega)))]
        clear y1 y2 y4 hj
        generalize valL (ds.take (p - F)) = nn at *
        have HRES : Hid (numR sc s.length = (0, -1)) := by show _ = _; rw [HSC.out]; rfl
        go_wp2
        go_ret2
        exact ⟨by rw [HRES.out]; rfl, rfl⟩
    · have hpe : p = F + ds.length := by omega
      have HPV : Hid (valL (ds.take (p - F)) = valL ds) := by show _ = _; rw [List.take_of_length_le (by omega)]
      have HEE : Hid (¬ (p : Int) < (s.length : Int) ∨ (∃ (h : p < (bsl s).size) (y : UInt8), (bsl s)[p]'h = y ∧ (y.toNat : Int) < 48 ∧ (p : Int) < (s.length : Int)) ∨ (∃ (h : p < (bsl s).size) (y : UInt8), (bsl s)[p]'h = y ∧ ((48 : Int) ≤ (y.toNat : Int) ∧ (57 : Int) < (y.toNat : Int)) ∧ (p : Int) < (s.length : Int))) := by
        show _ ∨ _
        rcases HEND.out with e | ⟨h, e⟩
        · left; omega
        · right
          have hps : p < s.length := by omega
          have hlt : p < (bsl s).size := by omega
          have e2 : isDig s[p] = false := by
            have : s[p] = s[F + ds.length] := by congr 1
            rw [this]; exact e
          by_cases q : 48 ≤ s[p].toNat
          · right
            refine ⟨hlt, s[p], bsl_get _ _ _, ⟨by omega, ?_⟩, by omega⟩
            have : ¬ s[p].toNat ≤ 57 := fun q2 => by rw [(dig_iff _).2 ⟨q, q2⟩] at e2; cases e2
            omega
          · left
            exact ⟨hlt, s[p], bsl_get _ _ _, by omega, by omega⟩
      by_cases h0 : ds.length = 0
      · have hz : ds = [] := List.eq_nil_of_length_eq_zero h0
        have hpF : p = F := by omega
        have HSC : Hid (sc = none) := by show _ = _; rw [HS.out, if_pos (Or.inl hz)]
        subst hpF
        have HRES : Hid (numR sc s.length = (0, -1)) := by show _ = _; rw [HSC.out]; rfl
        clear hpe
        clear h0 hz
        generalize valL (ds.take (p - p)) = nn at *
        rcases HEE.out with he | ⟨hlt2, y, hg, hya, hyb⟩ | ⟨hlt2, y, hg, hya, hyb⟩
        all_goals
          go_wp2
          all_goals
            go_ret2
            exact ⟨by rw [HRES.out]; rfl, rfl⟩
      · by_cases h11 : ds.length = 11
        · have hkF : ((p : Int) == (F : Int)) = false := beq_eq_false_iff_ne.2 (by omega)
          have h10' : (10 : Int) < (p : Int) - (F : Int) := by omega
          have HSC : Hid (sc = none) := by show _ = _; rw [HS.out, if_pos (Or.inr (Or.inl (by omega)))]
          have HRES : Hid (numR sc s.length = (0, -1)) := by show _ = _; rw [HSC.out]; rfl
          clear hpe
          clear h0
          generalize valL (ds.take (p - F)) = nn at *
          rcases HEE.out with he | ⟨hlt2, y, hg, hya, hyb⟩ | ⟨hlt2, y, hg, hya, hyb⟩
          all_goals
            go_wp2
            all_goals
              go_ret2
              exact ⟨by rw [HRES.out]; rfl, rfl⟩
        · obtain ⟨y0, z1, z2, z3, z4⟩ := HAT.out F (by omega) (Nat.le_refl _) (by omega)
          have hhd : ds.head? = some y0 := by
            have : ds[0]'(by omega) = y0 := by
              have e : ds[0]'(by omega) = ds[F - F]'z3 := by congr 1; omega
              rw [e]; exact z4
            rw [List.head?_eq_getElem?, List.getElem?_eq_getElem (by omega), this]
          by_cases hy0 : y0 = 48
          · by_cases h1 : 1 < ds.length
            · have hkF : ((p : Int) == (F : Int)) = false := beq_eq_false_iff_ne.2 (by omega)
              have h10' : ¬ (10 : Int) < (p : Int) - (F : Int) := by omega
              have hltF : F < (bsl s).size := by omega
              have hgF : (bsl s)[F]'hltF = y0 := by rw [bsl_get]; exact z1
              have hF' : (F : Int) < (s.length : Int) := by omega
              have h48 : ((y0.toNat : Int) == 48) = true := by rw [hy0]; rfl
              have h1' : (1 : Int) < (p : Int) - (F : Int) := by omega
              have HSC : Hid (sc = none) := by show _ = _; rw [HS.out, if_pos (Or.inr (Or.inr ⟨by rw [hhd, hy0], Or.inl (by omega)⟩))]
              have HRES : Hid (numR sc s.length = (0, -1)) := by show _ = _; rw [HSC.out]; rfl
              clear hpe
              clear h0 hhd hy0 z1 z2 z4 z3
              generalize y0 = yy at *
              generalize valL (ds.take (p - F)) = nn at *
              rcases HEE.out with he | ⟨hlt2, y, hg, hya, hyb⟩ | ⟨hlt2, y, hg, hya, hyb⟩
              all_goals
                go_wp2
                all_goals
                  go_ret2
                  exact ⟨by rw [HRES.out]; rfl, rfl⟩
            · have hkF : ((p : Int) == (F : Int)) = false := beq_eq_false_iff_ne.2 (by omega)
              have h10' : ¬ (10 : Int) < (p : Int) - (F : Int) := by omega
              have hltF : F < (bsl s).size := by omega
              have hgF : (bsl s)[F]'hltF = y0 := by rw [bsl_get]; exact z1
              have hF' : (F : Int) < (s.length : Int) := by omega
              have h48 : ((y0.toNat : Int) == 48) = true := by rw [hy0]; rfl
              have h1' : ¬ (1 : Int) < (p : Int) - (F : Int) := by omega
              have HSC : Hid (sc = some (sgn false (valL ds), rest)) := by show _ = _; rw [HS.out, if_neg (fun q => by rcases q with q | q | q; exact absurd (by rw [q]; rfl) h0; omega; rcases q.2 with q2 | q2; omega; cases q2)]
              have HRES : Hid (numR sc s.length = (((valL (ds.take (p - F)) : Nat) : Int), (p : Int))) := by
                show _ = _
                rw [HSC.out, HPV.out]
                show (_, (s.length : Int) - (rest.length : Int)) = _
                rw [HDR.out, show (s.length : Int) - ((s.length - F - ds.length : Nat) : Int) = (p : Int) by omega]
                rfl
              clear hpe
              clear h0 hhd hy0 z1 z2 z4 z3
              generalize y0 = yy at *
              generalize valL (ds.take (p - F)) = nn at *
              rcases HEE.out with he | ⟨hlt2, y, hg, hya, hyb⟩ | ⟨hlt2, y, hg, hya, hyb⟩
              all_goals
                go_wp2
                all_goals
                  go_ret2
                  exact ⟨by rw [HRES.out]; rfl, rfl⟩
          · have hkF : ((p : Int) == (F : Int)) = false := beq_eq_false_iff_ne.2 (by omega)
            have h10' : ¬ (10 : Int) < (p : Int) - (F : Int) := by omega
            have hltF : F < (bsl s).size := by omega
            have hgF : (bsl s)[F]'hltF = y0 := by rw [bsl_get]; exact z1
            have hF' : (F : Int) < (s.length : Int) := by omega
            have h48 : ((y0.toNat : Int) == 48) = false := beq_eq_false_iff_ne.2 fun e => hy0 (UInt8.toNat_inj.1 (by show _ = 48; omega))
            have HSC : Hid (sc = some (sgn false (valL ds), rest)) := by show _ = _; rw [HS.out, if_neg (fun q => by rcases q with q | q | q; exact absurd (by rw [q]; rfl) h0; omega; exact hy0 (by rw [hhd] at q; exact Option.some.inj q.1))]
            have HRES : Hid (numR sc s.length = (((valL (ds.take (p - F)) : Nat) : Int), (p : Int))) := by
              show _ = _
              rw [HSC.out, HPV.out]
              show (_, (s.length : Int) - (rest.length : Int)) = _
              rw [HDR.out, show (s.length : Int) - ((s.length - F - ds.length : Nat) : Int) = (p : Int) by omega]
              rfl
            clear hpe
            clear h0 hhd hy0 z1 z2 z4 z3
            generalize y0 = yy at *
            generalize valL (ds.take (p - F)) = nn at *
            rcases HEE.out with he | ⟨hlt2, y, hg, hya, hyb⟩ | ⟨hlt2, y, hg, hya, hyb⟩
            all_goals
              go_wp2
              all_goals
                go_ret2
                exact ⟨by rw [HRES.out]; rfl, rfl⟩
set_option maxHeartbeats 2000000 in
theorem num_over (s : List UInt8) (hl : s.length ≤ 100) (at' : Nat) (ha : at' = s.length) (w : World) :
    Calls Tryz.prog 40 #[.string (bsl s), .int .i64 (at' : Int)] w fun e w' => e = .returned (.tuple #[.int .i64 (numR (scanNum (s.drop at')) s.length).1, .int .i64 (numR (scanNum (s.drop at')) s.length).2]) ∧ w = w' := by
  have hsz := bsl_size s
  have hm : ((s.drop at').head? == some 45) = false := by rw [List.drop_of_length_le (by omega)]; rfl
  obtain ⟨F, hF⟩ : ∃ F : Nat, F = at' := ⟨_, rfl⟩
  have hFl : F ≤ s.length := by omega
  have HS := Lib.hid (scan_as (s.drop at') (s.drop F) false hm (by rw [hF]; rfl))
  have hDl : (s.drop F).length = s.length - F := List.length_drop
  have HAT : Hid (∀ p (h : p < s.length), F ≤ p → p < F + ((s.drop F).takeWhile isDig).length → ∃ y, s[p] = y ∧ isDig y = true ∧ ∃ h2 : p - F < ((s.drop F).takeWhile isDig).length, ((s.drop F).takeWhile isDig)[p - F] = y) := by
    intro p h h1 h2
    have hj : p - F < ((s.drop F).takeWhile isDig).length := by omega
    obtain ⟨q1, q2⟩ := take_at (s.drop F) (p - F) hj (by rw [hDl]; omega)
    have e : (s.drop F)[p - F]'(by rw [hDl]; omega) = s[p] := by
      rw [List.getElem_drop]
      congr 1
      omega
    exact ⟨s[p], rfl, by rw [← e]; exact q1, hj, by rw [q2, e]⟩
  have HEND : Hid (F + ((s.drop F).takeWhile isDig).length = s.length ∨ ∃ h : F + ((s.drop F).takeWhile isDig).length < s.length, isDig s[F + ((s.drop F).takeWhile isDig).length] = false) := by
    show _ ∨ _
    rcases take_end (s.drop F) with e | ⟨h, e⟩
    · left; omega
    · right
      refine ⟨by omega, ?_⟩
      rw [List.getElem_drop] at e
      exact e
  have hle : ((s.drop F).takeWhile isDig).length ≤ s.length - F := by
    have hp : (s.drop F).takeWhile isDig <+: s.drop F := List.takeWhile_prefix _
    have := hp.length_le
    omega
  have HDR : Hid (((s.drop F).drop ((s.drop F).takeWhile isDig).length).length = s.length - F - ((s.drop F).takeWhile isDig).length) := by show _ = _; rw [List.length_drop, hDl]
  have HDIG := Lib.hid (dig_all (s.drop F))
  generalize (s.drop F).drop ((s.drop F).takeWhile isDig).length = rest at *
  generalize (s.drop F).takeWhile isDig = ds at *
  generalize scanNum (s.drop at') = sc at *
  have HF := Lib.hid hF
  clear hm hDl
  go_enter Tryz.func40, Tryz.ntmps40
  go_wp2_with fail
  have hFi : ((at' : Int) : Int) = (F : Int) := by rw [hF]
  simp only [hFi]
  have hde : F + ds.length ≤ s.length := by omega
  clear hFi hF  hle
  go_loop [7, 9] (fun kv nv => ∃ p : Nat, F ≤ p ∧ p ≤ F + ds.length ∧ p ≤ F + 11 ∧ kv = .int .i64 (p : Int) ∧ nv = .int .i64 ((valL (ds.take (p - F)) : Nat) : Int)) (fun kv _ => s.length - (intOf kv).toNat)
  case atStart => exact ⟨F, Nat.le_refl _, by omega, by omega, rfl, by rw [Nat.sub_self]; rfl⟩
  case round =>
    obtain ⟨p, hp0, hp1, hp2, rfl, rfl⟩ := hrel
    have hvb : ((valL (ds.take (p - F)) : Nat) : Int) ≤ 99999999999 := val_bound _ (fun c hc => HDIG.out c (List.mem_of_mem_take hc)) (by rw [List.length_take]; omega)
    by_cases hj : p < F + ds.length
    · have hps : p < s.length := by omega
      obtain ⟨y, y1, y2, y3, y4⟩ := HAT.out p hps hp0 hj
      have hlt : p < (bsl s).size := by omega
      have hg : (bsl s)[p]'hlt = y := by rw [bsl_get]; exact y1
      have ya : (48 : Int) ≤ (y.toNat : Int) := by have := (dig_iff y).1 y2; omega
      have yb : (y.toNat : Int) ≤ 57 := by have := (dig_iff y).1 y2; omega
      have hp' : (p : Int) < (s.length : Int) := by omega
      by_cases h10 : p - F ≤ 10
      · have h10' : (p : Int) - (F : Int) ≤ 10 := by omega
        have HV : Hid (valL (ds.take (p + 1 - F)) = valL (ds.take (p - F)) * 10 + (y.toNat - 48)) := by
          show _ = _
          have : ds.take (p + 1 - F) = ds.take (p - F) ++ [y] := by
            rw [show p + 1 - F = (p - F) + 1 by omega, List.take_succ_eq_append_getElem y3, y4]
          rw [this, valL_snoc]
        clear y1 y2 y4 hj
        generalize valL (ds.take (p - F)) = nn at *
        go_wp2
        go_round
        case rel => exact ⟨p + 1, by omega, by omega, by omega, by go_num, by rw [HV.out]; exact congrArg (Value.int .i64) (by omega)⟩
        case measure => simp [intOf]; omega
      · have h10' : (10 : Int) < (p : Int) - (F : Int) := by omega
        have hkF : ((p : Int) == (F : Int)) = false := beq_eq_false_iff_ne.2 (by omega)
        have HSC : Hid (sc = none) := by show _ = _; rw [HS.out, if_pos (Or.inr (Or.inl (by omega)))]
        clear y1 y2 y4 hj
        generalize valL (ds.take (p - F)) = nn at *
        have HRES : Hid (numR sc s.length = (0, -1)) := by show _ = _; rw [HSC.out]; rfl
        go_wp2
        go_ret2
        exact ⟨by rw [HRES.out]; rfl, rfl⟩
    · have hpe : p = F + ds.length := by omega
      have HPV : Hid (valL (ds.take (p - F)) = valL ds) := by show _ = _; rw [List.take_of_length_le (by omega)]
      have HEE : Hid (¬ (p : Int) < (s.length : Int) ∨ (∃ (h : p < (bsl s).size) (y : UInt8), (bsl s)[p]'h = y ∧ (y.toNat : Int) < 48 ∧ (p : Int) < (s.length : Int)) ∨ (∃ (h : p < (bsl s).size) (y : UInt8), (bsl s)[p]'h = y ∧ ((48 : Int) ≤ (y.toNat : Int) ∧ (57 : Int) < (y.toNat : Int)) ∧ (p : Int) < (s.length : Int))) := by
        show _ ∨ _
        rcases HEND.out with e | ⟨h, e⟩
        · left; omega
        · right
          have hps : p < s.length := by omega
          have hlt : p < (bsl s).size := by omega
          have e2 : isDig s[p] = false := by
            have : s[p] = s[F + ds.length] := by congr 1
            rw [this]; exact e
          by_cases q : 48 ≤ s[p].toNat
          · right
            refine ⟨hlt, s[p], bsl_get _ _ _, ⟨by omega, ?_⟩, by omega⟩
            have : ¬ s[p].toNat ≤ 57 := fun q2 => by rw [(dig_iff _).2 ⟨q, q2⟩] at e2; cases e2
            omega
          · left
            exact ⟨hlt, s[p], bsl_get _ _ _, by omega, by omega⟩
      by_cases h0 : ds.length = 0
      · have hz : ds = [] := List.eq_nil_of_length_eq_zero h0
        have hpF : p = F := by omega
        have HSC : Hid (sc = none) := by show _ = _; rw [HS.out, if_pos (Or.inl hz)]
        subst hpF
        have HRES : Hid (numR sc s.length = (0, -1)) := by show _ = _; rw [HSC.out]; rfl
        clear hpe
        clear h0 hz
        generalize valL (ds.take (p - p)) = nn at *
        rcases HEE.out with he | ⟨hlt2, y, hg, hya, hyb⟩ | ⟨hlt2, y, hg, hya, hyb⟩
        all_goals
          go_wp2
          all_goals
            go_ret2
            exact ⟨by rw [HRES.out]; rfl, rfl⟩
      · by_cases h11 : ds.length = 11
        · have hkF : ((p : Int) == (F : Int)) = false := beq_eq_false_iff_ne.2 (by omega)
          have h10' : (10 : Int) < (p : Int) - (F : Int) := by omega
          have HSC : Hid (sc = none) := by show _ = _; rw [HS.out, if_pos (Or.inr (Or.inl (by omega)))]
          have HRES : Hid (numR sc s.length = (0, -1)) := by show _ = _; rw [HSC.out]; rfl
          clear hpe
          clear h0
          generalize valL (ds.take (p - F)) = nn at *
          rcases HEE.out with he | ⟨hlt2, y, hg, hya, hyb⟩ | ⟨hlt2, y, hg, hya, hyb⟩
          all_goals
            go_wp2
            all_goals
              go_ret2
              exact ⟨by rw [HRES.out]; rfl, rfl⟩
        · obtain ⟨y0, z1, z2, z3, z4⟩ := HAT.out F (by omega) (Nat.le_refl _) (by omega)
          have hhd : ds.head? = some y0 := by
            have : ds[0]'(by omega) = y0 := by
              have e : ds[0]'(by omega) = ds[F - F]'z3 := by congr 1; omega
              rw [e]; exact z4
            rw [List.head?_eq_getElem?, List.getElem?_eq_getElem (by omega), this]
          by_cases hy0 : y0 = 48
          · by_cases h1 : 1 < ds.length
            · have hkF : ((p : Int) == (F : Int)) = false := beq_eq_false_iff_ne.2 (by omega)
              have h10' : ¬ (10 : Int) < (p : Int) - (F : Int) := by omega
              have hltF : F < (bsl s).size := by omega
              have hgF : (bsl s)[F]'hltF = y0 := by rw [bsl_get]; exact z1
              have hF' : (F : Int) < (s.length : Int) := by omega
              have h48 : ((y0.toNat : Int) == 48) = true := by rw [hy0]; rfl
              have h1' : (1 : Int) < (p : Int) - (F : Int) := by omega
              have HSC : Hid (sc = none) := by show _ = _; rw [HS.out, if_pos (Or.inr (Or.inr ⟨by rw [hhd, hy0], Or.inl (by omega)⟩))]
              have HRES : Hid (numR sc s.length = (0, -1)) := by show _ = _; rw [HSC.out]; rfl
              clear hpe
              clear h0 hhd hy0 z1 z2 z4 z3
              generalize y0 = yy at *
              generalize valL (ds.take (p - F)) = nn at *
              rcases HEE.out with he | ⟨hlt2, y, hg, hya, hyb⟩ | ⟨hlt2, y, hg, hya, hyb⟩
              all_goals
                go_wp2
                all_goals
                  go_ret2
                  exact ⟨by rw [HRES.out]; rfl, rfl⟩
            · have hkF : ((p : Int) == (F : Int)) = false := beq_eq_false_iff_ne.2 (by omega)
              have h10' : ¬ (10 : Int) < (p : Int) - (F : Int) := by omega
              have hltF : F < (bsl s).size := by omega
              have hgF : (bsl s)[F]'hltF = y0 := by rw [bsl_get]; exact z1
              have hF' : (F : Int) < (s.length : Int) := by omega
              have h48 : ((y0.toNat : Int) == 48) = true := by rw [hy0]; rfl
              have h1' : ¬ (1 : Int) < (p : Int) - (F : Int) := by omega
              have HSC : Hid (sc = some (sgn false (valL ds), rest)) := by show _ = _; rw [HS.out, if_neg (fun q => by rcases q with q | q | q; exact absurd (by rw [q]; rfl) h0; omega; rcases q.2 with q2 | q2; omega; cases q2)]
              have HRES : Hid (numR sc s.length = (((valL (ds.take (p - F)) : Nat) : Int), (p : Int))) := by
                show _ = _
                rw [HSC.out, HPV.out]
                show (_, (s.length : Int) - (rest.length : Int)) = _
                rw [HDR.out, show (s.length : Int) - ((s.length - F - ds.length : Nat) : Int) = (p : Int) by omega]
                rfl
              clear hpe
              clear h0 hhd hy0 z1 z2 z4 z3
              generalize y0 = yy at *
              generalize valL (ds.take (p - F)) = nn at *
              rcases HEE.out with he | ⟨hlt2, y, hg, hya, hyb⟩ | ⟨hlt2, y, hg, hya, hyb⟩
              all_goals
                go_wp2
                all_goals
                  go_ret2
                  exact ⟨by rw [HRES.out]; rfl, rfl⟩
          · have hkF : ((p : Int) == (F : Int)) = false := beq_eq_false_iff_ne.2 (by omega)
            have h10' : ¬ (10 : Int) < (p : Int) - (F : Int) := by omega
            have hltF : F < (bsl s).size := by omega
            have hgF : (bsl s)[F]'hltF = y0 := by rw [bsl_get]; exact z1
            have hF' : (F : Int) < (s.length : Int) := by omega
            have h48 : ((y0.toNat : Int) == 48) = false := beq_eq_false_iff_ne.2 fun e => hy0 (UInt8.toNat_inj.1 (by show _ = 48; omega))
            have HSC : Hid (sc = some (sgn false (valL ds), rest)) := by show _ = _; rw [HS.out, if_neg (fun q => by rcases q with q | q | q; exact absurd (by rw [q]; rfl) h0; omega; exact hy0 (by rw [hhd] at q; exact Option.some.inj q.1))]
            have HRES : Hid (numR sc s.length = (((valL (ds.take (p - F)) : Nat) : Int), (p : Int))) := by
              show _ = _
              rw [HSC.out, HPV.out]
              show (_, (s.length : Int) - (rest.length : Int)) = _
              rw [HDR.out, show (s.length : Int) - ((s.length - F - ds.length : Nat) : Int) = (p : Int) by omega]
              rfl
            clear hpe
            clear h0 hhd hy0 z1 z2 z4 z3
            generalize y0 = yy at *
            generalize valL (ds.take (p - F)) = nn at *
            rcases HEE.out with he | ⟨hlt2, y, hg, hya, hyb⟩ | ⟨hlt2, y, hg, hya, hyb⟩
            all_goals
              go_wp2
              all_goals
                go_ret2
                exact ⟨by rw [HRES.out]; rfl, rfl⟩
/-- NumberAt, at every place of a text. -/
theorem number_at (s : List UInt8) (hl : s.length ≤ 100) (at' : Nat) (ha : at' ≤ s.length) (w : World) :
    Calls Tryz.prog 40 #[.string (bsl s), .int .i64 (at' : Int)] w fun e w' => e = .returned (.tuple #[.int .i64 (numR (scanNum (s.drop at')) s.length).1, .int .i64 (numR (scanNum (s.drop at')) s.length).2]) ∧ w = w' := by
  by_cases h : at' < s.length
  · by_cases h45 : s[at'] = 45
    · exact num_minus s hl at' (by omega) h45 w
    · exact num_plain s hl at' (by omega) h45 w
  · exact num_over s hl at' (by omega) w
theorem scanReg_other {t : List UInt8} (h : ¬ t.head? = some 36) : scanReg t = none := by unfold scanReg; rw [if_neg h]
theorem scanReg_none {t : List UInt8} (h : t.head? = some 36) (h2 : scanNum (t.drop 1) = none) : scanReg t = none := by unfold scanReg; rw [if_pos h, h2]
theorem scanReg_some {t u : List UInt8} {n : Int} (h : t.head? = some 36) (h2 : scanNum (t.drop 1) = some (n, u)) : scanReg t = if n < 0 then none else some (n, u) := by unfold scanReg; rw [if_pos h, h2]
set_option maxHeartbeats 1000000 in
theorem register_at (s : List UInt8) (hl : s.length ≤ 100) (at' : Nat) (w : World) :
    Calls Tryz.prog 39 #[.string (bsl s), .int .i64 (at' : Int)] w fun e w' => e = .returned (.tuple #[.int .i64 (numR (scanReg (s.drop at')) s.length).1, .int .i64 (numR (scanReg (s.drop at')) s.length).2]) ∧ w = w' := by
  have hsz := bsl_size s
  by_cases h : at' < s.length
  · have hlt : at' < (bsl s).size := by omega
    have ha : (at' : Int) < (s.length : Int) := by omega
    have hhd : (s.drop at').head? = some (s[at']'h) := by rw [List.head?_drop, List.getElem?_eq_getElem h]
    by_cases h36 : s[at']'h = 36
    · have hy : ((((bsl s)[at']'hlt).toNat : Int) == 36) = true := by rw [bsl_get, h36]; rfl
      have HN := Lib.hid (number_at s hl (at' + 1) (by omega) w)
      have hdd : s.drop (at' + 1) = (s.drop at').drop 1 := by rw [List.drop_drop]
      rw [hdd] at HN
      rw [h36] at hhd
      cases hs : scanNum ((s.drop at').drop 1) with
      | none =>
        have HR : Hid (numR (scanReg (s.drop at')) s.length = (0, -1)) := by show _ = _; rw [scanReg_none hhd hs]; rfl
        rw [hs] at HN
        clear hhd hdd hs h36
        generalize numR (scanReg (s.drop at')) s.length = R at *
        go_enter Tryz.func39, Tryz.ntmps39
        go_wp2_with fail
        refine HN.out.mono ?_
        rintro e w1 ⟨rfl, rfl⟩
        simp only [numR]
        go_wp2
        go_ret2
        exact ⟨by rw [HR.out]; rfl, rfl⟩
      | some x =>
        obtain ⟨n, u⟩ := x
        have hreg := scanReg_some hhd hs
        rw [hs] at HN
        by_cases h0 : n < 0
        · have HR : Hid (numR (scanReg (s.drop at')) s.length = (0, -1)) := by show _ = _; rw [hreg, if_pos h0]; rfl
          clear hhd hdd hs h36 hreg
          generalize numR (scanReg (s.drop at')) s.length = R at *
          go_enter Tryz.func39, Tryz.ntmps39
          go_wp2_with fail
          refine HN.out.mono ?_
          rintro e w1 ⟨rfl, rfl⟩
          simp only [numR]
          go_wp2
          go_ret2
          exact ⟨by rw [HR.out]; rfl, rfl⟩
        · have HR : Hid (numR (scanReg (s.drop at')) s.length = (n, (s.length : Int) - (u.length : Int))) := by show _ = _; rw [hreg, if_neg h0]; rfl
          clear hhd hdd hs h36 hreg
          generalize numR (scanReg (s.drop at')) s.length = R at *
          go_enter Tryz.func39, Tryz.ntmps39
          go_wp2_with fail
          refine HN.out.mono ?_
          rintro e w1 ⟨rfl, rfl⟩
          simp only [numR]
          go_wp2
          go_ret2
          exact ⟨by rw [HR.out]; rfl, rfl⟩
    · have hy : ((((bsl s)[at']'hlt).toNat : Int) == 36) = false := by
        rw [bsl_get]
        exact beq_eq_false_iff_ne.2 fun e => h36 (UInt8.toNat_inj.1 (by show _ = 36; omega))
      have HR : Hid (numR (scanReg (s.drop at')) s.length = (0, -1)) := by
        show _ = _
        rw [scanReg_other (by rw [hhd]; exact fun e => h36 (Option.some.inj e))]; rfl
      clear hhd h36
      generalize numR (scanReg (s.drop at')) s.length = R at *
      go_enter Tryz.func39, Tryz.ntmps39
      go_wp2
      go_ret2
      exact ⟨by rw [HR.out]; rfl, rfl⟩
  · have ha : ¬ (at' : Int) < (s.length : Int) := by omega
    have HR : Hid (numR (scanReg (s.drop at')) s.length = (0, -1)) := by
      show _ = _
      rw [List.drop_of_length_le (by omega)]; rfl
    clear h
    generalize numR (scanReg (s.drop at')) s.length = R at *
    go_enter Tryz.func39, Tryz.ntmps39
    go_wp2
    go_ret2
    exact ⟨by rw [HR.out]; rfl, rfl⟩
end Go.Proofs.YtnppegldebocmaaGreatDoor
