/- The plain law: an instruction's text, and that two have one text only if they are one. No program in sight. Conditions: as each theorem states. -/
import Derived.Test.YtnppegldebocmaaGreatDoorEncQ
import Derived.Lib.Join
import Derived.Lib.ItoaNum
namespace Go.Proofs.YtnppegldebocmaaGreatDoor
open Go.RowKit
/-- The number that digits make. -/
def valL (l : List UInt8) : Nat := l.foldl (fun v c => v * 10 + (c.toNat - 48)) 0
theorem valL_snoc (l : List UInt8) (c : UInt8) : valL (l ++ [c]) = valL l * 10 + (c.toNat - 48) := by simp [valL]
theorem dig_num (u : Nat) (h : u < 10) : (UInt8.ofNat (48 + u)).toNat = 48 + u := by
  rw [UInt8.toNat_ofNat']
  omega
theorem val_dig (u : Nat) : valL (Lib.decDigits u) = u := by
  induction u using Nat.strongRecOn with
  | _ u ih =>
    by_cases h : u < 10
    · rw [Lib.decDigits_one h]
      show 0 * 10 + ((UInt8.ofNat (48 + u)).toNat - 48) = u
      rw [dig_num u h]
      omega
    · rw [Lib.decDigits, dif_neg h, valL_snoc, ih (u / 10) (by omega), dig_num (u % 10) (by omega)]
      omega
theorem dig_chars (u : Nat) : ∀ c ∈ Lib.decDigits u, 48 ≤ c.toNat ∧ c.toNat ≤ 57 := by
  induction u using Nat.strongRecOn with
  | _ u ih =>
    by_cases h : u < 10
    · rw [Lib.decDigits_one h]
      intro c hc
      rw [List.mem_singleton] at hc
      subst hc
      rw [dig_num u h]
      omega
    · rw [Lib.decDigits, dif_neg h]
      intro c hc
      rcases List.mem_append.1 hc with hc | hc
      · exact ih (u / 10) (by omega) c hc
      · rw [List.mem_singleton] at hc
        subst hc
        rw [dig_num (u % 10) (by omega)]
        omega
theorem itoa_chars (n : Int) : ∀ c ∈ Lib.itoa n, c = 45 ∨ (48 ≤ c.toNat ∧ c.toNat ≤ 57) := by
  unfold Lib.itoa
  intro c hc
  split at hc
  · rcases List.mem_cons.1 hc with hc | hc
    · exact Or.inl hc
    · exact Or.inr (dig_chars _ c hc)
  · exact Or.inr (dig_chars _ c hc)
theorem itoa_free (n : Int) (c : UInt8) (h : c ≠ 45) (h2 : c.toNat < 48) : c ∉ Lib.itoa n := by
  intro hc
  rcases itoa_chars n c hc with e | e
  · exact h e
  · omega
theorem itoa_inj {a b : Int} (h : Lib.itoa a = Lib.itoa b) : a = b := by
  have no : ∀ (u : Nat) (l : List UInt8), Lib.decDigits u ≠ 45 :: l := by
    intro u l e
    have := dig_chars u 45 (by rw [e]; exact List.mem_cons_self)
    have e2 : (45 : UInt8).toNat = 45 := rfl
    omega
  unfold Lib.itoa at h
  by_cases ha : a < 0
  · by_cases hb : b < 0
    · rw [if_pos ha, if_pos hb] at h
      have := congrArg valL (List.cons.inj h).2
      rw [val_dig, val_dig] at this
      omega
    · rw [if_pos ha, if_neg hb] at h
      exact absurd h.symm (no _ _)
  · by_cases hb : b < 0
    · rw [if_neg ha, if_pos hb] at h
      exact absurd h (no _ _)
    · rw [if_neg ha, if_neg hb] at h
      have := congrArg valL h
      rw [val_dig, val_dig] at this
      omega
theorem cut_inj (c : UInt8) : ∀ (x y r s : List UInt8), c ∉ x → c ∉ y → x ++ c :: r = y ++ c :: s → x = y ∧ r = s
  | [], [], _, _, _, _, h => ⟨rfl, (List.cons.inj h).2⟩
  | [], b :: y, r, s, _, hy, h => by
    have := (List.cons.inj h).1
    subst this
    exact absurd List.mem_cons_self hy
  | a :: x, [], r, s, hx, _, h => by
    have := (List.cons.inj h).1
    subst this
    exact absurd List.mem_cons_self hx
  | a :: x, b :: y, r, s, hx, hy, h => by
    obtain ⟨e1, e2⟩ := List.cons.inj h
    obtain ⟨e3, e4⟩ := cut_inj c x y r s (fun hh => hx (List.mem_cons_of_mem _ hh)) (fun hh => hy (List.mem_cons_of_mem _ hh)) e2
    exact ⟨by rw [e1, e3], e4⟩
theorem tail_inj : ∀ (r r' : List (List UInt8)) (x x' : List UInt8), r.length = r'.length → (44 : UInt8) ∉ x → (44 : UInt8) ∉ x' → (∀ y ∈ r, (44 : UInt8) ∉ y) → (∀ y ∈ r', (44 : UInt8) ∉ y) →
    x ++ Lib.joinTail [44, 32] r = x' ++ Lib.joinTail [44, 32] r' → x = x' ∧ r = r'
  | [], [], x, x', _, _, _, _, _, h => by simpa [Lib.joinTail] using h
  | [], _ :: _, _, _, hl, _, _, _, _, _ => by simp at hl
  | _ :: _, [], _, _, hl, _, _, _, _, _ => by simp at hl
  | y :: r, y' :: r', x, x', hl, hx, hx', hr, hr', h => by
    have e : ∀ (z : List UInt8) (q : List (List UInt8)), Lib.joinTail [44, 32] (z :: q) = 44 :: 32 :: (z ++ Lib.joinTail [44, 32] q) := fun z q => by simp [Lib.joinTail]
    rw [e, e] at h
    obtain ⟨h1, h2⟩ := cut_inj 44 x x' _ _ hx hx' h
    obtain ⟨h3, h4⟩ := tail_inj r r' y y' (by simpa using hl) (hr y List.mem_cons_self) (hr' y' List.mem_cons_self) (fun z hz => hr z (List.mem_cons_of_mem _ hz)) (fun z hz => hr' z (List.mem_cons_of_mem _ hz)) (List.cons.inj h2).2
    exact ⟨h1, by rw [h3, h4]⟩
theorem join_inj (xs ys : List (List UInt8)) (hl : xs.length = ys.length) (hx : ∀ y ∈ xs, (44 : UInt8) ∉ y) (hy : ∀ y ∈ ys, (44 : UInt8) ∉ y) (h : Lib.join xs [44, 32] = Lib.join ys [44, 32]) : xs = ys := by
  match xs, ys, hl with
  | [], [], _ => rfl
  | x :: r, y :: s, hl =>
    rw [Lib.join_cons, Lib.join_cons] at h
    obtain ⟨h1, h2⟩ := tail_inj r s x y (by simpa using hl) (hx x List.mem_cons_self) (hy y List.mem_cons_self) (fun z hz => hx z (List.mem_cons_of_mem _ hz)) (fun z hz => hy z (List.mem_cons_of_mem _ hz)) h
    rw [h1, h2]
/-- The signed value of 16 bits. -/
def immS (m : Int) : Int := if 32768 ≤ m then m - 65536 else m
/-- An operand's text. -/
def opdB (i : InsN) (c : UInt8) : List UInt8 :=
  if c = 83 then 36 :: Lib.itoa i.s else if c = 84 then 36 :: Lib.itoa i.t else if c = 68 then 36 :: Lib.itoa i.d else if c = 110 then Lib.itoa (immS i.imm)
  else if c = 109 then Lib.itoa (immS i.imm) ++ ([40, 36] ++ (Lib.itoa i.s ++ [41])) else Lib.itoa i.imm
theorem opd_free (i : InsN) (c : UInt8) : (44 : UInt8) ∉ opdB i c := by
  have f : ∀ n, (44 : UInt8) ∉ Lib.itoa n := fun n => itoa_free n 44 (by decide) (by decide)
  unfold opdB
  intro h
  repeat' split at h
  all_goals simp [f] at h
/-- What stands behind the name. -/
def tailB (i : InsN) (k : Nat) : List UInt8 := if orderB k = [] then [] else 32 :: Lib.join ((orderB k).map (opdB i)) [44, 32]
/-- An instruction's text. -/
def textB (i : InsN) : List UInt8 := nameB i.op.toNat ++ tailB i i.op.toNat
theorem take_name : ∀ (n t : List UInt8), (32 : UInt8) ∉ n → (t = [] ∨ ∃ r, t = 32 :: r) → (n ++ t).takeWhile (fun c => c != 32) = n
  | [], t, _, h => by
    rcases h with rfl | ⟨r, rfl⟩ <;> simp
  | a :: n, t, hn, h => by
    have ha : (a != 32) = true := by
      rw [bne_iff_ne]
      intro e
      exact hn (by rw [e]; exact List.mem_cons_self)
    simp only [List.cons_append, List.takeWhile_cons, ha, if_true]
    rw [take_name n t (fun hh => hn (List.mem_cons_of_mem _ hh)) h]
theorem names_free : ∀ k, k < 54 → ((32 : UInt8) ∉ nameB k) := by decide +kernel
theorem names_apart : ∀ k, k < 54 → ∀ j, j < 54 → (1 ≤ k ∧ 1 ≤ j ∧ nameB k = nameB j → k = j) := by decide +kernel
theorem tailB_form (i : InsN) (k : Nat) : tailB i k = [] ∨ ∃ r, tailB i k = 32 :: r := by
  unfold tailB
  split
  · exact Or.inl rfl
  · exact Or.inr ⟨_, rfl⟩
theorem text_name (i : InsN) (k : Nat) (hop : i.op = (k : Int)) (hk : k < 54) : (textB i).takeWhile (fun c => c != 32) = nameB k := by
  unfold textB
  rw [hop, Int.toNat_natCast]
  exact take_name _ _ (names_free k hk) (tailB_form i k)
theorem orders_in : ∀ k, k < 54 → (1 ≤ k → (orderB k, fieldsB k) ∈ ([([], []), ([83], [83]), ([68], [68]), ([68, 83], [83, 68]), ([83, 84], [83, 84]), ([68, 84, 97], [84, 68, 97]), ([68, 84, 83], [83, 84, 68]), ([68, 83, 84], [83, 84, 68]), ([106], [106]), ([83, 84, 110], [83, 84, 105]), ([83, 110], [83, 105]), ([84, 83, 110], [83, 84, 105]), ([84, 83, 117], [83, 84, 105]), ([84, 117], [84, 105]), ([84, 68], [84, 68]), ([84, 109], [83, 84, 105])] : List (List UInt8 × List UInt8))) := by decide +kernel
theorem orders (k : Nat) (h2 : k < 54) (h1 : 1 ≤ k) : (orderB k = [] ∧ fieldsB k = []) ∨ (orderB k = [83] ∧ fieldsB k = [83]) ∨ (orderB k = [68] ∧ fieldsB k = [68]) ∨ (orderB k = [68, 83] ∧ fieldsB k = [83, 68]) ∨ (orderB k = [83, 84] ∧ fieldsB k = [83, 84]) ∨ (orderB k = [68, 84, 97] ∧ fieldsB k = [84, 68, 97]) ∨ (orderB k = [68, 84, 83] ∧ fieldsB k = [83, 84, 68]) ∨ (orderB k = [68, 83, 84] ∧ fieldsB k = [83, 84, 68]) ∨ (orderB k = [106] ∧ fieldsB k = [106]) ∨ (orderB k = [83, 84, 110] ∧ fieldsB k = [83, 84, 105]) ∨ (orderB k = [83, 110] ∧ fieldsB k = [83, 105]) ∨ (orderB k = [84, 83, 110] ∧ fieldsB k = [83, 84, 105]) ∨ (orderB k = [84, 83, 117] ∧ fieldsB k = [83, 84, 105]) ∨ (orderB k = [84, 117] ∧ fieldsB k = [84, 105]) ∨ (orderB k = [84, 68] ∧ fieldsB k = [84, 68]) ∨ (orderB k = [84, 109] ∧ fieldsB k = [83, 84, 105]) := by
  have h := orders_in k h2 h1
  simpa only [List.mem_cons, List.not_mem_nil, or_false, Prod.mk.injEq] using h
theorem good_wells (i : InsN) (k : Nat) (hop : i.op = (k : Int)) (m0 : 0 ≤ i.imm) (h : encBad i = false) :
    wellB i.s ((fieldsB k).contains 83) = true ∧ wellB i.t ((fieldsB k).contains 84) = true ∧ wellB i.d ((fieldsB k).contains 68) = true ∧ i.imm ≤ mostZ (fieldsB k) := by
  rw [encBad_eq i k hop m0] at h
  simp only [Bool.not_eq_false', Bool.and_eq_true, decide_eq_true_eq] at h
  obtain ⟨⟨⟨hS, hT⟩, hD⟩, hm⟩ := h
  exact ⟨hS, hT, hD, hm⟩
theorem opd_s {i j : InsN} (h : opdB i 83 = opdB j 83) : i.s = j.s := itoa_inj (List.cons.inj h).2
theorem opd_t {i j : InsN} (h : opdB i 84 = opdB j 84) : i.t = j.t := itoa_inj (List.cons.inj h).2
theorem opd_d {i j : InsN} (h : opdB i 68 = opdB j 68) : i.d = j.d := itoa_inj (List.cons.inj h).2
theorem opd_n {i j : InsN} (h : opdB i 110 = opdB j 110) : immS i.imm = immS j.imm := itoa_inj h
theorem opd_a {i j : InsN} (h : opdB i 97 = opdB j 97) : i.imm = j.imm := itoa_inj h
theorem opd_u {i j : InsN} (h : opdB i 117 = opdB j 117) : i.imm = j.imm := itoa_inj h
theorem opd_j {i j : InsN} (h : opdB i 106 = opdB j 106) : i.imm = j.imm := itoa_inj h
theorem opd_m {i j : InsN} (h : opdB i 109 = opdB j 109) : immS i.imm = immS j.imm ∧ i.s = j.s := by
  have h' : Lib.itoa (immS i.imm) ++ 40 :: (36 :: (Lib.itoa i.s ++ [41])) = Lib.itoa (immS j.imm) ++ 40 :: (36 :: (Lib.itoa j.s ++ [41])) := h
  obtain ⟨h1, h2⟩ := cut_inj 40 _ _ _ _ (itoa_free _ 40 (by decide) (by decide)) (itoa_free _ 40 (by decide) (by decide)) h'
  exact ⟨itoa_inj h1, itoa_inj (List.append_cancel_right (List.cons.inj h2).2)⟩
theorem immS_inj {a b : Int} (ha : 0 ≤ a) (hb : 0 ≤ b) (ha2 : a ≤ 65535) (hb2 : b ≤ 65535) (h : immS a = immS b) : a = b := by
  unfold immS at h
  split at h <;> split at h <;> omega
theorem text_inj (i j : InsN) (k l : Nat) (hi : i.op = (k : Int)) (hj : j.op = (l : Int)) (k1 : 1 ≤ k) (k2 : k < 54) (l1 : 1 ≤ l) (l2 : l < 54) (mi : 0 ≤ i.imm) (mj : 0 ≤ j.imm) (gi : encBad i = false) (gj : encBad j = false)
    (h : textB i = textB j) : i = j := by
  have hn := congrArg (List.takeWhile fun c => c != 32) h
  rw [text_name i k hi k2, text_name j l hj l2] at hn
  have hkl := names_apart k k2 l l2 ⟨k1, l1, hn⟩
  subst hkl
  unfold textB at h
  rw [hi, hj, Int.toNat_natCast] at h
  have ht := List.append_cancel_left h
  obtain ⟨a1, a2, a3, a4⟩ := good_wells i k hi mi gi
  obtain ⟨b1, b2, b3, b4⟩ := good_wells j k hj mj gj
  have hm : ∀ c ∈ orderB k, opdB i c = opdB j c := by
    unfold tailB at ht
    by_cases ho : orderB k = []
    · intro c hc
      rw [ho] at hc
      cases hc
    · rw [if_neg ho, if_neg ho] at ht
      have := join_inj _ _ (by simp) (by intro y hy; obtain ⟨c, _, rfl⟩ := List.mem_map.1 hy; exact opd_free i c) (by intro y hy; obtain ⟨c, _, rfl⟩ := List.mem_map.1 hy; exact opd_free j c) (List.cons.inj ht).2
      exact List.map_inj_left.1 this
  obtain ⟨io, is, it, id, im⟩ := i
  obtain ⟨jo, js, jt, jd, jm⟩ := j
  simp only at hi hj mi mj a1 a2 a3 a4 b1 b2 b3 b4
  have hop : io = jo := by rw [hi, hj]
  clear h hn ht gi gj hi hj
  rcases orders k k2 k1 with e | e | e | e | e | e | e | e | e | e | e | e | e | e | e | e
  all_goals
    rw [e.2] at a1 a2 a3 a4 b1 b2 b3 b4
    rw [e.1] at hm
    simp [wellB, mostZ] at a1 a2 a3 a4 b1 b2 b3 b4
    have hs : is = js := by first | exact opd_s (hm 83 (by decide)) | exact (opd_m (hm 109 (by decide))).2 | omega
    have ht : it = jt := by first | exact opd_t (hm 84 (by decide)) | omega
    have hd : id = jd := by first | exact opd_d (hm 68 (by decide)) | omega
    have hmm : im = jm := by
      first
      | exact opd_a (hm 97 (by decide))
      | exact opd_u (hm 117 (by decide))
      | exact opd_j (hm 106 (by decide))
      | exact immS_inj mi mj (by omega) (by omega) (opd_n (hm 110 (by decide)))
      | exact immS_inj mi mj (by omega) (by omega) (opd_m (hm 109 (by decide))).1
      | omega
    rw [hop, hs, ht, hd, hmm]
end Go.Proofs.YtnppegldebocmaaGreatDoor
