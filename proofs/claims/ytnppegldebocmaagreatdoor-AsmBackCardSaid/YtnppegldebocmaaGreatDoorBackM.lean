/- The plain law of words written as lines: they are assembled again. No program in sight. Conditions: as each theorem states. The walk of changelinglaw1.AlikeWords where the words are alike. Conditions: as each theorem states. The walk of changelinglaw1.AsmBack: it answers true. Conditions: as each theorem states. -/
import Derived.Test.YtnppegldebocmaaGreatDoorAsmM
import Derived.Test.YtnppegldebocmaaGreatDoorAsmW
import Derived.Test.YtnppegldebocmaaGreatDoorDecimal
namespace Go.Proofs.YtnppegldebocmaaGreatDoor
open Go.RowKit Go.Maps
set_option linter.unusedVariables false
theorem pum_app (M : Nat) : ∀ (l r : List UInt8) (acc a : Nat), Lib.parseUintM M acc l = .ok a → Lib.parseUintM M acc (l ++ r) = Lib.parseUintM M a r
  | [], r, acc, a, h => by
    simp only [Lib.parseUintM, Lib.NumEnd.ok.injEq] at h
    rw [h]; rfl
  | c :: l, r, acc, a, h => by
    rw [List.cons_append]
    unfold Lib.parseUintM at h ⊢
    split at h
    · split at h
      · cases h
      · split at h
        · cases h
        · next h1 h2 h3 =>
          rw [if_pos h1, if_neg h2, if_neg h3]
          refine (pum_app M l r _ a h).trans ?_
          cases r <;> rfl
    · cases h
theorem dig_of (d : Nat) (h : d < 10) : (UInt8.ofNat (48 + d)).toNat = 48 + d := by
  rw [UInt8.toNat_ofNat']
  omega
theorem pum_one (M acc d : Nat) (hd : d < 10) (h : acc * 10 + d ≤ M) (hM : M < 4294967296) : Lib.parseUintM M acc [UInt8.ofNat (48 + d)] = .ok (acc * 10 + d) := by
  have e := dig_of d hd
  unfold Lib.parseUintM
  rw [e, if_pos (by omega), if_neg (by omega), show 48 + d - 48 = d from by omega, if_neg (by omega)]
  rfl
theorem pum_dec (M : Nat) (hM : M < 4294967296) : ∀ (n u : Nat), u ≤ n → u ≤ M → Lib.parseUintM M 0 (Lib.decDigits u) = .ok u := by
  intro n
  induction n with
  | zero =>
    intro u h1 h2
    have : u = 0 := by omega
    subst this
    rw [Lib.decDigits_one (by decide)]
    exact pum_one M 0 0 (by decide) (by omega) hM
  | succ n ih =>
    intro u h1 h2
    by_cases h : u < 10
    · rw [Lib.decDigits_one h]
      have := pum_one M 0 u h (by omega) hM
      simpa using this
    · rw [Lib.decDigits, dif_neg h, pum_app M _ _ _ (u / 10) (ih (u / 10) (by omega) (by omega))]
      have := pum_one M (u / 10) (u % 10) (by omega) (by omega) hM
      rw [this]
      congr 1
      omega
theorem decDigits_ne (u : Nat) : Lib.decDigits u ≠ [] := fun h => by
  have := congrArg List.length h
  rw [Lib.decDigits_length] at this
  have := Lib.nDigits_pos u
  simp at *
  omega
theorem wordB_dec (u : Nat) (h : u < 4294967296) : wordB (Lib.decDigits u) = some u := by
  have : Lib.parseUintB 32 (Lib.decDigits u) = .ok u := by
    unfold Lib.parseUintB
    rw [if_neg (decDigits_ne u)]
    exact pum_dec (2 ^ 32 - 1) (by decide) u u (Nat.le_refl _) (by omega)
  rw [wordB_ok this, if_pos rfl]
theorem suffix_mem {s : List UInt8} {c : UInt8} (h : Lib.hasSuffix s [c] = true) : c ∈ s := by
  unfold Lib.hasSuffix at h
  rw [List.isSuffixOf_iff_suffix] at h
  exact h.subset (by simp)
theorem prefix_mem {s p : List UInt8} {c : UInt8} (h : Lib.hasPrefix s (c :: p) = true) : c ∈ s := by
  unfold Lib.hasPrefix at h
  rw [List.isPrefixOf_iff_prefix] at h
  exact h.subset (by simp)
theorem itoa_ne (n : Int) (c : UInt8) (h : c ≠ 45) (h2 : c.toNat < 48 ∨ 57 < c.toNat) : c ∉ Lib.itoa n := by
  intro hc
  rcases itoa_chars n c hc with e | e
  · exact h e
  · omega
theorem opd_ne (i : InsN) (c x : UInt8) (h : x ≠ 45) (h2 : x.toNat < 48 ∨ 57 < x.toNat) (h3 : x ≠ 36 ∧ x ≠ 40 ∧ x ≠ 41) : x ∉ opdB i c := by
  have f : ∀ n, x ∉ Lib.itoa n := fun n => itoa_ne n x h h2
  unfold opdB
  intro hm
  repeat' split at hm
  all_goals simp [f, h3] at hm
theorem joinTail_ne (x : UInt8) (h : x ≠ 44 ∧ x ≠ 32) (r : List (List UInt8)) (hr : ∀ y ∈ r, x ∉ y) : x ∉ Lib.joinTail [44, 32] r := by
  unfold Lib.joinTail
  intro hm
  rw [List.mem_flatten] at hm
  obtain ⟨l, hl, hx⟩ := hm
  obtain ⟨y, hy, rfl⟩ := List.mem_map.1 hl
  simp [h, hr y hy] at hx
theorem join_ne (x : UInt8) (h : x ≠ 44 ∧ x ≠ 32) (L : List (List UInt8)) (hL : ∀ y ∈ L, x ∉ y) : x ∉ Lib.join L [44, 32] := by
  cases L with
  | nil => simp [Lib.join_nil]
  | cons a r =>
    rw [Lib.join_cons]
    intro hm
    rcases List.mem_append.1 hm with hm | hm
    · exact hL a List.mem_cons_self hm
    · exact joinTail_ne x h r (fun y hy => hL y (List.mem_cons_of_mem _ hy)) hm
theorem names_ne : ∀ k, k < 54 → ((58 : UInt8) ∉ nameB k ∧ (46 : UInt8) ∉ nameB k) := by decide +kernel
theorem text_ne (i : InsN) (hk : i.op.toNat < 54) (x : UInt8) (hx : x = 58 ∨ x = 46) : x ∉ textB i := by
  have hn := names_ne i.op.toNat hk
  have h1 : x ≠ 45 ∧ (x.toNat < 48 ∨ 57 < x.toNat) ∧ (x ≠ 36 ∧ x ≠ 40 ∧ x ≠ 41) ∧ (x ≠ 44 ∧ x ≠ 32) := by
    rcases hx with rfl | rfl <;> decide
  unfold textB tailB
  intro hm
  rcases List.mem_append.1 hm with hm | hm
  · rcases hx with rfl | rfl
    · exact hn.1 hm
    · exact hn.2 hm
  · split at hm
    · cases hm
    · rcases List.mem_cons.1 hm with hm | hm
      · exact h1.2.2.2.2 hm
      · exact join_ne x h1.2.2.2 _ (fun y hy => by
          obtain ⟨c, _, rfl⟩ := List.mem_map.1 hy
          exact opd_ne i c x h1.1 h1.2.1 h1.2.2.1) hm
theorem low_not {x : UInt8} (h : lowC x = true) : x ≠ 45 ∧ (x.toNat < 48 ∨ 57 < x.toNat) ∧ (x ≠ 36 ∧ x ≠ 40 ∧ x ≠ 41) := by
  have hb : 97 ≤ x.toNat ∧ x.toNat ≤ 122 := by simpa [lowC] using h
  refine ⟨?_, by omega, ?_, ?_, ?_⟩ <;> (intro e; subst e; simp at hb)
theorem opd_label (i : InsN) (c : UInt8) : labelB (opdB i c) = false := by
  cases ho : opdB i c with
  | nil => rfl
  | cons x r =>
    show (decide (r.length < 12) && (lowC x && (x :: r).all labC)) = false
    cases hl : lowC x with
    | false => simp
    | true =>
      obtain ⟨a, b, d⟩ := low_not hl
      exact absurd (by rw [ho]; exact List.mem_cons_self) (opd_ne i c x a b d)
theorem pieces_text (i : InsN) (h : goodI i) : piecesB (textB i) = (orderB i.op.toNat).map (opdB i) := by
  have k2 : i.op.toNat < 54 := by have := h.1; omega
  have hnf := names_free i.op.toNat k2
  unfold piecesB textB tailB
  by_cases ho : orderB i.op.toNat = []
  · rw [if_pos ho, List.append_nil, cutC_none 32 _ hnf, ho]
    rfl
  · rw [if_neg ho, cutC_free 32 _ _ hnf]
    simp only [if_true]
    cases hoo : orderB i.op.toNat with
    | nil => exact absurd hoo ho
    | cons c o =>
      rw [List.map_cons, Lib.join_cons]
      exact split2_join _ _ (opd_free i c) fun y hy => by
        obtain ⟨c2, _, rfl⟩ := List.mem_map.1 hy
        exact opd_free i c2
theorem text_unlabelled (i : InsN) (h : goodI i) : labelledB (textB i) = none := by
  rcases snoc_of (piecesB (textB i)) with h0 | ⟨xs, x, hL⟩
  · exact labelledB_nil h0
  · rw [labelledB_snoc hL]
    have hx : x ∈ (orderB i.op.toNat).map (opdB i) := by rw [← pieces_text i h, hL]; simp
    obtain ⟨c, _, rfl⟩ := List.mem_map.1 hx
    rw [opd_label, Bool.and_false]
    rfl
theorem step_text (base : Int) (st : List Int × DataW Unit) (i : InsN) (hf : i.Fits) (h : goodI i) : stepB base st (textB i) = some (st.1 ++ [encL i (fieldsB i.op.toNat)], st.2) := by
  have k2 : i.op.toNat < 54 := by have := h.1; omega
  have hs : ¬ Lib.hasSuffix (textB i) [58] = true := fun e => text_ne i k2 58 (Or.inl rfl) (suffix_mem e)
  have hp : ¬ Lib.hasPrefix (textB i) [46, 119, 111, 114, 100] = true := fun e => text_ne i k2 46 (Or.inr rfl) (prefix_mem e)
  unfold stepB
  rw [if_neg hs, if_neg hp, parse_text i hf h, if_pos ⟨text_unlabelled i h, rfl⟩]
def wordL (u : Nat) : List UInt8 := [46, 119, 111, 114, 100, 32] ++ Lib.decDigits u
theorem step_word (base : Int) (st : List Int × DataW Unit) (u : Nat) (hu : u < 4294967296) : stepB base st (wordL u) = some (st.1 ++ [(u : Int)], st.2) := by
  have hdn : (58 : UInt8) ∉ Lib.decDigits u := by
    rw [← Lib.itoa_nonneg]
    exact itoa_ne _ 58 (by decide) (by decide)
  have hs : ¬ Lib.hasSuffix (wordL u) [58] = true := fun e => by
    have := suffix_mem e
    unfold wordL at this
    simp [hdn] at this
  have hp : Lib.hasPrefix (wordL u) [46, 119, 111, 114, 100] = true := rfl
  have ht : Lib.trimPrefix (wordL u) [46, 119, 111, 114, 100] = 32 :: Lib.decDigits u := by
    unfold Lib.trimPrefix
    rw [if_pos hp]
    rfl
  have hp2 : Lib.hasPrefix (32 :: Lib.decDigits u) [32] = true := rfl
  have ht2 : Lib.trimPrefix (32 :: Lib.decDigits u) [32] = Lib.decDigits u := by
    unfold Lib.trimPrefix
    rw [if_pos hp2]
    rfl
  unfold stepB
  rw [if_neg hs, if_pos hp, ht, if_pos hp2, ht2, wordB_dec u hu]
/-- The line of a word. -/
def lineOf (z : Int) : List UInt8 := if (decZ z).op = 0 then wordL z.toNat else textB (decZ z)
theorem dec_goodI (z : Nat) (h : (decZ (z : Int)).op ≠ 0) (hz : z < 4294967296) : goodI (decZ (z : Int)) ∧ encL (decZ (z : Int)) (fieldsB (decZ (z : Int)).op.toNat) = (z : Int) := by
  rcases decZ_cases (z : Int) with e | ⟨k, a, b, c, d⟩
  · rw [e] at h; exact absurd rfl h
  · have ho : (decZ (z : Int)).op = (k : Int) := by rw [d, decAt_op]
    refine ⟨⟨by omega, by rw [d]; exact dec_good z k⟩, ?_⟩
    rw [ho, d, Int.toNat_natCast]
    exact enc_of_dec z hz k c
theorem step_line (base : Int) (st : List Int × DataW Unit) (z : Nat) (hz : z < 4294967296) : stepB base st (lineOf (z : Int)) = some (st.1 ++ [(z : Int)], st.2) := by
  unfold lineOf
  by_cases h : (decZ (z : Int)).op = 0
  · rw [if_pos h, Int.toNat_natCast]
    exact step_word base st z hz
  · rw [if_neg h]
    obtain ⟨g, e⟩ := dec_goodI z h hz
    rw [step_text base st _ (decZ_fits _) g, e]
theorem line_short_z (z : Nat) (hz : z < 4294967296) : (lineOf (z : Int)).length ≤ 100 := by
  unfold lineOf
  by_cases h : (decZ (z : Int)).op = 0
  · rw [if_pos h, Int.toNat_natCast]
    have := nDig_le 10 z (by decide) (by omega)
    unfold wordL
    rw [List.length_append, Lib.decDigits_length]
    simp
    omega
  · rw [if_neg h]
    exact text_short _ (decZ_fits _) (dec_goodI z h hz).1
def hereL : List UInt8 := [104, 101, 114, 101, 58]
def linesL (at' : Nat) : Nat → List Int → List (List UInt8)
  | _, [] => []
  | i, z :: zs => (if i = at' then [hereL] else []) ++ (lineOf z :: linesL at' (i + 1) zs)
theorem linesL_snoc (at' : Nat) : ∀ (zs : List Int) (i : Nat) (z : Int), linesL at' i (zs ++ [z]) = linesL at' i zs ++ ((if i + zs.length = at' then [hereL] else []) ++ [lineOf z])
  | [], i, z => by simp [linesL]
  | y :: zs, i, z => by
    rw [List.cons_append]
    simp only [linesL]
    rw [linesL_snoc at' zs (i + 1) z, show i + 1 + zs.length = i + (y :: zs).length from by simp; omega]
    simp
theorem linesL_many (at' : Nat) : ∀ (zs : List Int) (i : Nat), (linesL at' i zs).length ≤ zs.length + (if i ≤ at' then 1 else 0)
  | [], i => by simp [linesL]
  | z :: zs, i => by
    have ih := linesL_many at' zs (i + 1)
    simp only [linesL, List.length_append, List.length_cons]
    by_cases h : i = at'
    · rw [if_pos h, if_pos (by omega)]
      rw [if_neg (by omega)] at ih
      simp
      omega
    · rw [if_neg h]
      by_cases h2 : i ≤ at'
      · rw [if_pos h2]
        rw [if_pos (by omega)] at ih
        simp
        omega
      · rw [if_neg h2]
        rw [if_neg (by omega)] at ih
        simp
        omega
theorem lines_short (at' : Nat) : ∀ (zs : List Int) (i : Nat), (∀ z ∈ zs, 0 ≤ z ∧ z < 4294967296) → ∀ s ∈ linesL at' i zs, s.length ≤ 100
  | [], i, _, s, hs => by cases hs
  | z :: zs, i, hz, s, hs => by
    simp only [linesL] at hs
    rcases List.mem_append.1 hs with hs | hs
    · split at hs
      · rcases List.mem_singleton.1 hs with rfl
        decide
      · cases hs
    · rcases List.mem_cons.1 hs with rfl | hs
      · obtain ⟨h0, h1⟩ := hz z List.mem_cons_self
        obtain ⟨u, rfl⟩ := Int.eq_ofNat_of_zero_le h0
        exact line_short_z u (by omega)
      · exact lines_short at' zs (i + 1) (fun y hy => hz y (List.mem_cons_of_mem _ hy)) s hs
theorem step_here (base : Int) (ws : List Int) : stepB base (ws, .map []) hereL = some (ws, (DataW.map []).put (.string [104, 101, 114, 101]) (.lit (.int .u32 (hereZ base ws.length)))) := by
  have h1 : Lib.hasSuffix hereL [58] = true := by decide
  have h2 : Lib.trimSuffix hereL [58] = [104, 101, 114, 101] := by decide
  have h3 : labelB [104, 101, 114, 101] = true := by decide
  have h4 : Maps.has (DataW.map [] : DataW Unit) (.string [104, 101, 114, 101]) = false := rfl
  unfold stepB
  rw [if_pos h1, h2, if_pos ⟨h3, h4⟩]
theorem good_lines (base : Int) (at' : Nat) : ∀ (zs : List Int) (i : Nat) (ws : List Int) (D : DataW Unit), (∀ z ∈ zs, 0 ≤ z ∧ z < 4294967296) → (i ≤ at' → D = .map []) → ∃ D', goodAll base (linesL at' i zs) (ws, D) = some (ws ++ zs, D')
  | [], i, ws, D, _, _ => ⟨D, by simp [linesL, goodAll]⟩
  | z :: zs, i, ws, D, hz, hD => by
    obtain ⟨h0, h1⟩ := hz z List.mem_cons_self
    have hz' : ∀ y ∈ zs, 0 ≤ y ∧ y < 4294967296 := fun y hy => hz y (List.mem_cons_of_mem _ hy)
    obtain ⟨u, rfl⟩ := Int.eq_ofNat_of_zero_le h0
    by_cases h : i = at'
    · have hd := hD (by omega)
      subst hd
      obtain ⟨D', ih⟩ := good_lines base at' zs (i + 1) (ws ++ [(u : Int)]) ((DataW.map []).put (.string [104, 101, 114, 101]) (.lit (.int .u32 (hereZ base ws.length)))) hz' (fun h2 => by omega)
      refine ⟨D', ?_⟩
      simp only [linesL]
      rw [if_pos h, List.singleton_append]
      simp only [goodAll]
      rw [step_here]
      simp only
      rw [step_line base _ u (by omega)]
      simp only
      rw [ih]
      simp
    · obtain ⟨D', ih⟩ := good_lines base at' zs (i + 1) (ws ++ [(u : Int)]) D hz' (fun h2 => hD (by omega))
      refine ⟨D', ?_⟩
      simp only [linesL]
      rw [if_neg h, List.nil_append]
      simp only [goodAll]
      rw [step_line base _ u (by omega)]
      simp only
      rw [ih]
      simp
end Go.Proofs.YtnppegldebocmaaGreatDoor
namespace Go.Proofs.YtnppegldebocmaaGreatDoor
open Go.RowKit
set_option linter.unusedVariables false
/-- A slice of words. -/
def ArgW (w : World) (v : Value) (zs : List Int) : Prop :=
  ∃ p cap, v = .slice p zs.length cap ∧ ∀ j (h : j < zs.length), ∃ a, p = some a ∧ w.cell? (a.add j) = some (.int .u32 zs[j])
theorem ArgW.below {w w' : World} {v : Value} {zs : List Int} (h : ArgW w v zs) (hb : Below w.heap.size w w') : ArgW w' v zs := by
  obtain ⟨p, cap, h1, h2⟩ := h
  refine ⟨p, cap, h1, fun j hj => ?_⟩
  obtain ⟨a, e, hc⟩ := h2 j hj
  exact ⟨a, e, (hb.cell (World.block_lt_of_cell? _ _ hc)).trans hc⟩
theorem ArgW.own {w : World} {B : Nat} {v : Value} {zs : List Int} (h : w.ownsRow B 22 1 v zs.length (zs.map (.int .u32))) : ArgW w v zs := by
  rcases Joins.ownsRow_forms h with ⟨rfl, hz⟩ | ⟨g, cap, rfl⟩
  · exact ⟨none, 0, by rw [hz], fun j hj => absurd hj (by omega)⟩
  · refine ⟨some ⟨g, 0, none⟩, cap, rfl, fun j hj => ⟨_, rfl, ?_⟩⟩
    exact h.cells rfl j (.int .u32 zs[j]) (by rw [List.getElem?_map, List.getElem?_eq_getElem hj]; rfl)
set_option maxHeartbeats 1000000 in
theorem alike_same (zs : List Int) (hl : zs.length ≤ 1000) (v1 v2 : Value) (w : World) (h1 : ArgW w v1 zs) (h2 : ArgW w v2 zs) :
    Calls Tryz.prog 17 #[v1, v2] w fun e w' => e = .returned (.int .i64 1) ∧ ∃ k, w' = w.drewN k := by
  obtain ⟨p, cap, rfl, hc1⟩ := h1
  obtain ⟨q, cap2, rfl, hc2⟩ := h2
  have H1 := Lib.hid hc1
  have H2 := Lib.hid hc2
  clear hc1 hc2
  go_enter Tryz.func17, Tryz.ntmps17
  go_wp2_with fail
  go_loopw [5] (fun kv wr => ∃ j k : Nat, j ≤ zs.length ∧ kv = .int .i64 (j : Int) ∧ wr = w.drewN k) (fun kv _ => zs.length - (intOf kv).toNat)
  case atStart => exact ⟨0, 0, Nat.zero_le _, rfl, by simp [World.drewN_zero]⟩
  case round =>
    obtain ⟨j, k, hj, rfl, rfl⟩ := hrel
    by_cases hlt : j < zs.length
    · obtain ⟨a, rfl, ha⟩ := H1.out j hlt
      obtain ⟨b, rfl, hb⟩ := H2.out j hlt
      have hjl : (j : Int) < (zs.length : Int) := by go_light; omega
      have ha2 : (w.drewN k).cell? (a.add j) = some (.int .u32 zs[j]) := ha
      have hb2 : (w.drewN k).cell? (b.add j) = some (.int .u32 zs[j]) := hb
      generalize zs[j] = z at *
      have hz := Tryz.underlying22
      go_wp2_with fail
      go_quiet (fail)
      go_wp2
      go_roundw
      case rel => exact ⟨j + 1, _, hlt, by go_num, rfl⟩
      case measure => go_light; simp [intOf]; omega
    · have hje : j = zs.length := by go_light; omega
      subst hje
      clear hlt
      go_wp2
      go_ret
      exact ⟨rfl, _, rfl⟩
end Go.Proofs.YtnppegldebocmaaGreatDoor
namespace Go.Proofs.YtnppegldebocmaaGreatDoor
open Go.RowKit
set_option linter.unusedVariables false
abbrev strC (s : List UInt8) : Value := .string (bsl s)
set_option maxHeartbeats 4000000 in
set_option maxRecDepth 1000000 in
theorem back_main (zs : List Int) (hz : ∀ z ∈ zs, 0 ≤ z ∧ z < 4294967296) (hzl : zs.length ≤ 100) (v : Value) (a : Nat) (ha : a ≤ zs.length) (base : Int) (hb0 : 0 ≤ base) (hb4 : base % 4 = 0)
    (ad : Nat → Addr) (mz : Int) (w : World) (hP : PW w ad mz) (hv : ArgW w v zs) :
    Calls Tryz.prog 4 #[v, .int .i64 (a : Int), .int .u32 base] w fun e w' => e = .returned (.bool true) ∧ Below w.heap.size w w' := by
  obtain ⟨p, cap, rfl, hc⟩ := hv
  have HC := Lib.hid hc
  have HP := Lib.hid hP
  have HZ := Lib.hid hz
  have hbt : base.tmod 4 = 0 := by rw [Int.tmod_eq_emod_of_nonneg hb0]; exact hb4
  have h1 : ¬ (100 : Int) < (zs.length : Int) := by omega
  have h2 : ¬ (a : Int) < 0 := by omega
  have h3 : ¬ (zs.length : Int) < (a : Int) := by omega
  have HT := Lib.hid (texted_ok ad w ⟨hP.se.c1, hP.se.c3⟩ hP.pow)
  obtain ⟨iS, hS1, hS2, hS3, hS4⟩ := info_parts Tryz.infoS
  clear hc hP hz
  go_enter Tryz.func4, Tryz.ntmps4
  go_wp2_with fail
  refine HT.out.mono ?_
  rintro e w1 ⟨rfl, hb1⟩
  have HB1 := Lib.hid hb1
  clear hb1 HT
  go_wp2_with fail
  have e1 : decide ((100 : Int) < (zs.length : Int)) = false := decide_eq_false (by go_light; omega)
  have e2 : decide ((a : Int) < 0) = false := decide_eq_false (by go_light; omega)
  have e4 : decide (zs.length < a) = false := decide_eq_false (by go_light; omega)
  simp only [e1, e2, e4, Bool.or_self]
  clear hbt h1 h2 h3 e1 e2 e4
  go_loopw [8, 9] (fun lv kv wr => ∃ j : Nat, j ≤ zs.length ∧ kv = .int .i64 (j : Int) ∧ Hid (wr.ownsRow w.heap.size 9 1 lv (linesL a 0 (zs.take j)).length ((linesL a 0 (zs.take j)).map strC)) ∧ Hid (Below w.heap.size w wr)) (fun _ kv _ => zs.length - (intOf kv).toNat)
  case atStart => exact ⟨0, Nat.zero_le _, rfl, World.ownsRow_nil _ _ _ _, HB1⟩
  case round =>
    obtain ⟨j, hj, rfl, HLV, HBJ⟩ := hrel
    by_cases hlt : j < zs.length
    · have hjl : (j : Int) < (zs.length : Int) := by go_light; omega
      have hmany := linesL_many a (zs.take j) 0
      have hln : (linesL a 0 (zs.take j)).length ≤ 101 := by rw [List.length_take] at hmany; split at hmany <;> (go_light; omega)
      obtain ⟨pa, rfl, hca⟩ := HC.out j hlt
      obtain ⟨z, hzj⟩ : ∃ z, zs[j] = z := ⟨_, rfl⟩
      rw [hzj] at hca
      obtain ⟨hz0, hz1⟩ := HZ.out z (by rw [← hzj]; exact List.getElem_mem hlt)
      have HNX : Hid (linesL a 0 (zs.take (j + 1)) = linesL a 0 (zs.take j) ++ ((if j = a then [hereL] else []) ++ [lineOf z])) := by
        show _ = _
        rw [List.take_succ_eq_append_getElem hlt, hzj, linesL_snoc, List.length_take, Nat.min_eq_left (by go_light; omega), Nat.zero_add]
      generalize linesL a 0 (zs.take j) = LL at *
      have HCA := Lib.hid hca
      have HZJ := Lib.hid hzj
      have HZ01 := Lib.hid (And.intro hz0 hz1)
      have hszb := HBJ.out.size
      have hln2 := hln
      clear hca hzj hmany
      go_upto_if 47 with fail
      go_cut [8] from 39 to 50 (fun s8 wx => Hid (wx.ownsRow w.heap.size 9 1 s8 (LL ++ (if j = a then [hereL] else [])).length ((LL ++ (if j = a then [hereL] else [])).map strC)) ∧ Hid (Below w.heap.size w wx))
      case first =>
        by_cases hja : j = a
        · have hja' : ((j : Int) == (a : Int)) = true := beq_iff_eq.2 (by go_light; omega)
          have HJA := Lib.hid hja
          clear hja
          go_wp2_with (at_builtin; refine wpList_append_lies _ rfl (.tmp 48) (.tmp 49) 40 rfl w.heap.size 9 iS (.string ByteArray.empty) 1 16 Tryz.underlying40 hS1 hS2 hS3 hS4 rfl (by decide) _ _ _ rfl (HLV.out.alloc _) _ 1 1 [_] rfl rfl (cell_one_new _ _ _) (fun x hx => by simp at hx; subst hx; rfl) (by decide) (by unfold maxLen; omega) (by omega) (by simp; omega) _ rfl ?_)
          intro g0 cap0 w4 hown4 hgrow4 hat4 hlt4
          have HO4 := Lib.hid hown4
          have HB4 := Lib.hid (HBJ.out.grown ((World.grownBy_alloc wr _ _).trans hgrow4) hszb (fun k hk => (HLV.out.lt k hk).1))
          clear hown4 hgrow4 hat4 hlt4
          go_wp2_with fail
          go_meet
          refine ⟨?_, HB4.out⟩
          rw [if_pos HJA.out]
          show World.ownsRow _ _ _ _ _ _ _
          rw [List.length_append, List.map_append]
          exact HO4.out
        · have hja' : ((j : Int) == (a : Int)) = false := beq_eq_false_iff_ne.2 (by go_light; omega)
          have HJA := Lib.hid hja
          clear hja
          go_wp2_with fail
          go_meet
          refine ⟨?_, HBJ⟩
          rw [if_neg HJA.out, List.append_nil]
          exact HLV
      case rest =>
        obtain ⟨HLV2, HB2⟩ := hcut
        rename World => wk
        have hl2 : (LL ++ (if j = a then [hereL] else [])).length ≤ 102 := by rw [List.length_append]; split <;> simp <;> (go_light; omega)
        have HNX2 : Hid (linesL a 0 (zs.take (j + 1)) = (LL ++ (if j = a then [hereL] else [])) ++ [lineOf z]) := by show _ = _; rw [HNX.out, List.append_assoc]
        generalize (LL ++ (if j = a then [hereL] else [])) = L2 at *
        clear HNX HLV HBJ hln hln2 hszb
        have hcz : wk.cell? (pa.add j) = some (.int .u32 z) := (HB2.out.cell (by exact World.block_lt_of_cell? _ _ HCA.out)).trans HCA.out
        have hszb := HB2.out.size
        go_wp2_with fail
        refine (decode_any z HZ01.out.1 HZ01.out.2 _).mono ?_
        rintro e w3 ⟨rfl, hb3⟩
        have HB3 := Lib.hid (HB2.out.trans (hb3.mono HB2.out.size))
        have HL3 := Lib.hid (own_below HLV2.out hb3)
        obtain ⟨y, hy⟩ : ∃ y, decZ z = y := ⟨_, rfl⟩
        rw [hy]
        have HY := Lib.hid hy
        have hF := Five.new w3 (.int .i64 y.op) (.int .i64 y.s) (.int .i64 y.t) (.int .i64 y.d) (.int .u32 y.imm) 24
        have hal := (Below.refl w3.heap.size w3).alloc (Nat.le_refl _) (.cells #[.int .i64 y.op, .int .i64 y.s, .int .i64 y.t, .int .i64 y.d, .int .u32 y.imm] 24)
        have HB4 := Lib.hid (HB3.out.trans (hal.mono HB3.out.size))
        have HL4 := Lib.hid (own_below HL3.out hal)
        have hcz4 : (w3.alloc (.cells #[.int .i64 y.op, .int .i64 y.s, .int .i64 y.t, .int .i64 y.d, .int .u32 y.imm] 24)).cell? (pa.add j) = some (.int .u32 z) := (HB4.out.cell (by exact World.block_lt_of_cell? _ _ HCA.out)).trans HCA.out
        obtain ⟨d0, d1, d2, d3, d4⟩ := Five.cells hF
        clear hb3 hcz HB2 HLV2 HB3 HL3 hszb hy hF hal
        have hz0 := HZ01.out.1
        have hz1 := HZ01.out.2
        by_cases hop : y.op = 0
        · have hop' : (y.op == 0) = true := by rw [hop]; rfl
          have HOP := Lib.hid hop
          have HLO : Hid (lineOf z = [46, 119, 111, 114, 100, 32] ++ Lib.itoa z) := by
            show _ = _
            unfold lineOf
            rw [HY.out, if_pos hop]
            obtain ⟨u, rfl⟩ := Int.eq_ofNat_of_zero_le hz0
            rw [Lib.itoa_nonneg]
            rfl
          have hsi : (bsl (Lib.itoa z)).size ≤ 100 := by
            rw [bsl_size]
            have := itoa_short 10 (by decide) z hz0 (by go_light; omega)
            go_light; omega
          have HAP : Hid ((⟨#[46, 119, 111, 114, 100, 32]⟩ : ByteArray) ++ bsl (Lib.itoa z) = bsl (lineOf z)) := by
            show _ = _
            rw [HLO.out]
            apply ByteArray.ext
            simp [bsl]
          have HDE := Lib.hid (fun W => decimal_any z (by go_light; omega) (by go_light; omega) W)
          clear hop
          generalize bsl (Lib.itoa z) = bi at *
          go_wp2_with fail
          refine (HDE.out _).mono ?_
          rintro e w5 ⟨rfl, hb5⟩
          have HB5 := Lib.hid (HB4.out.trans (hb5.mono HB4.out.size))
          have HL5 := Lib.hid (own_below HL4.out hb5)
          have hszb := HB5.out.size
          clear hb5 HB4 HL4 hcz4 d0 d1 d2 d3 d4
          go_wp2_with (at_builtin; refine wpList_append_lies _ rfl (.tmp 59) (.tmp 67) 40 rfl w.heap.size 9 iS (.string ByteArray.empty) 1 16 Tryz.underlying40 hS1 hS2 hS3 hS4 rfl (by decide) _ _ _ rfl (HL5.out.alloc _) _ 1 1 [_] rfl rfl (cell_one_new _ _ _) (fun x hx => by simp at hx; subst hx; rfl) (by decide) (by unfold maxLen; omega) (by omega) (by simp; omega) _ rfl ?_)
          intro g0 cap0 w6 hown6 hgrow6 hat6 hlt6
          rw [HAP.out] at hown6
          have HO6 : Hid (w6.ownsRow w.heap.size 9 1 (.slice (some ⟨g0, 0, none⟩) (L2.length + 1) cap0) (linesL a 0 (zs.take (j + 1))).length ((linesL a 0 (zs.take (j + 1))).map strC)) := by
            show World.ownsRow _ _ _ _ _ _ _
            rw [HNX2.out, List.length_append, List.map_append]
            exact hown6
          have HB6 := Lib.hid (HB5.out.grown ((World.grownBy_alloc w5 _ _).trans hgrow6) hszb (fun k hk => (HL5.out.lt k hk).1))
          clear hown6 hgrow6 hat6 hlt6
          go_wp2_with fail
          go_roundw
          case rel => exact ⟨j + 1, hlt, by go_num, HO6, HB6⟩
          case measure => go_light; simp [intOf]; omega
        · have hop' : (y.op == 0) = false := beq_eq_false_iff_ne.2 hop
          obtain ⟨u, hu⟩ := Int.eq_ofNat_of_zero_le hz0
          have hgd := dec_goodI u (by rw [← hu, HY.out]; exact hop) (by go_light; omega)
          rw [← hu, HY.out] at hgd
          have hfy : y.Fits := by rw [← HY.out]; exact decZ_fits z
          have HLO : Hid (lineOf z = textB y) := by
            show _ = _
            unfold lineOf
            rw [HY.out, if_neg hop]
          have HTX := Lib.hid (fun W (h1 : Two W ad) (h2 : Pow W) => text_yes y hfy hgd.1 ad W h1 h2)
          clear hop hgd hfy hcz4 hu
          rw [← HLO.out] at HTX
          have HP4 := Lib.hid (HP.out.below HB4.out)
          go_wp2_with fail
          refine (HTX.out _ ⟨HP4.out.se.c1, HP4.out.se.c3⟩ HP4.out.pow).mono ?_
          rintro e w5 ⟨rfl, hb5⟩
          have HB5 := Lib.hid (HB4.out.trans (hb5.mono HB4.out.size))
          have HL5 := Lib.hid (own_below HL4.out hb5)
          have hszb := HB5.out.size
          clear hb5 HB4 HL4 HP4 HTX d0 d1 d2 d3 d4
          go_wp2_with (at_builtin; refine wpList_append_lies _ rfl (.tmp 76) (.tmp 78) 40 rfl w.heap.size 9 iS (.string ByteArray.empty) 1 16 Tryz.underlying40 hS1 hS2 hS3 hS4 rfl (by decide) _ _ _ rfl (HL5.out.alloc _) _ 1 1 [_] rfl rfl (cell_one_new _ _ _) (fun x hx => by simp at hx; subst hx; rfl) (by decide) (by unfold maxLen; omega) (by omega) (by simp; omega) _ rfl ?_)
          intro g0 cap0 w6 hown6 hgrow6 hat6 hlt6
          have HO6 : Hid (w6.ownsRow w.heap.size 9 1 (.slice (some ⟨g0, 0, none⟩) (L2.length + 1) cap0) (linesL a 0 (zs.take (j + 1))).length ((linesL a 0 (zs.take (j + 1))).map strC)) := by
            show World.ownsRow _ _ _ _ _ _ _
            rw [HNX2.out, List.length_append, List.map_append]
            exact hown6
          have HB6 := Lib.hid (HB5.out.grown ((World.grownBy_alloc w5 _ _).trans hgrow6) hszb (fun k hk => (HL5.out.lt k hk).1))
          clear hown6 hgrow6 hat6 hlt6
          go_wp2_with fail
          go_roundw
          case rel => exact ⟨j + 1, hlt, by go_num, HO6, HB6⟩
          case measure => go_light; simp [intOf]; omega
    · have hje : j = zs.length := by go_light; omega
      subst hje
      rw [List.take_length] at HLV
      have hmany := linesL_many a zs 0
      have hln : (linesL a 0 zs).length ≤ 200 := by split at hmany <;> (go_light; omega)
      obtain ⟨D', hgl⟩ := good_lines base a zs 0 [] (.map []) HZ.out (fun _ => rfl)
      rw [List.nil_append] at hgl
      have HAS := Lib.hid (assemble_good (linesL a 0 zs) hln (lines_short a zs 0 HZ.out) base hb0 hb4 (zs, D') hgl ad mz wr (HP.out.below HBJ.out) _ _ HLV.out)
      clear hlt hmany hln hgl
      go_wp2_with fail
      refine HAS.out.mono ?_
      rintro e w2 ⟨wv, rfl, hwo, hb2⟩
      have HB2 := Lib.hid (HBJ.out.trans (hb2.mono HBJ.out.size))
      have HAL := Lib.hid (alike_same zs (by go_light; omega) wv (.slice p zs.length cap) w2 (ArgW.own hwo) ((show ArgW w _ zs from ⟨p, cap, rfl, HC.out⟩).below HB2.out))
      clear hwo hb2 HAS
      go_wp2_with fail
      refine HAL.out.mono ?_
      rintro e w3 ⟨rfl, k, rfl⟩
      go_wp2
      go_ret
      exact ⟨rfl, bdrewN HB2.out _⟩
set_option maxHeartbeats 1000000 in
theorem back_early (n : Nat) (p : Option Addr) (cap : Nat) (at' base : Int) (hc : (100 : Int) < (n : Int) ∨ (¬ (100 : Int) < (n : Int) ∧ at' < 0) ∨ (¬ (100 : Int) < (n : Int) ∧ ¬ at' < 0 ∧ (n : Int) < at') ∨ (¬ (100 : Int) < (n : Int) ∧ ¬ at' < 0 ∧ ¬ (n : Int) < at' ∧ (base.tmod 4 != 0) = true))
    (ad : Nat → Addr) (mz : Int) (w : World) (hP : PW w ad mz) :
    Calls Tryz.prog 4 #[.slice p n cap, .int .i64 at', .int .u32 base] w fun e w' => e = .returned (.bool true) ∧ Below w.heap.size w w' := by
  have HT := Lib.hid (texted_ok ad w ⟨hP.se.c1, hP.se.c3⟩ hP.pow)
  clear hP
  go_enter Tryz.func4, Tryz.ntmps4
  go_wp2_with fail
  refine HT.out.mono ?_
  rintro e w1 ⟨rfl, hb1⟩
  have HB1 := Lib.hid hb1
  clear hb1 HT
  rcases hc with h1 | ⟨h1, h2⟩ | ⟨h1, h2, h3⟩ | ⟨h1, h2, h3, h4⟩
  all_goals
    go_wp2
    go_ret
    exact ⟨rfl, HB1.out⟩
theorem back_any (zs : List Int) (hz : ∀ z ∈ zs, 0 ≤ z ∧ z < 4294967296) (v : Value) (at' base : Int) (hb0 : 0 ≤ base)
    (ad : Nat → Addr) (mz : Int) (w : World) (hP : PW w ad mz) (hv : ArgW w v zs) :
    Calls Tryz.prog 4 #[v, .int .i64 at', .int .u32 base] w fun e w' => e = .returned (.bool true) ∧ Below w.heap.size w w' := by
  by_cases hc : (100 : Int) < (zs.length : Int) ∨ (¬ (100 : Int) < (zs.length : Int) ∧ at' < 0) ∨ (¬ (100 : Int) < (zs.length : Int) ∧ ¬ at' < 0 ∧ (zs.length : Int) < at') ∨ (¬ (100 : Int) < (zs.length : Int) ∧ ¬ at' < 0 ∧ ¬ (zs.length : Int) < at' ∧ (base.tmod 4 != 0) = true)
  · obtain ⟨p, cap, rfl, _⟩ := hv
    exact back_early zs.length p cap at' base hc ad mz w hP
  · have h1 : ¬ (100 : Int) < (zs.length : Int) := fun h => hc (Or.inl h)
    have h2 : ¬ at' < 0 := fun h => hc (Or.inr (Or.inl ⟨h1, h⟩))
    have h3 : ¬ (zs.length : Int) < at' := fun h => hc (Or.inr (Or.inr (Or.inl ⟨h1, h2, h⟩)))
    have h4 : base.tmod 4 = 0 := by
      cases hb : (base.tmod 4 != 0)
      · simpa using hb
      · exact absurd (Or.inr (Or.inr (Or.inr ⟨h1, h2, h3, hb⟩))) hc
    obtain ⟨a, rfl⟩ := Int.eq_ofNat_of_zero_le (a := at') (by omega)
    rw [Int.tmod_eq_emod_of_nonneg hb0] at h4
    exact back_main zs hz (by omega) v a (by omega) base hb0 h4 ad mz w hP hv
end Go.Proofs.YtnppegldebocmaaGreatDoor
