/- The plain law of reading, second part: numbers and operands: what the program reads of a piece, what the document's answer reads of a place. No program in sight. Conditions: as each theorem states. -/
import Derived.Test.YtnppegldebocmaaGreatDoorParseP
namespace Go.Proofs.YtnppegldebocmaaGreatDoor
open Go.RowKit
set_option linter.unusedVariables false
def isDig (c : UInt8) : Bool := decide (48 ≤ c.toNat) && decide (c.toNat ≤ 57)
/-- A number's text: perhaps a minus, one to ten digits, no 0 ahead. -/
structure NumOk (m : Bool) (ds : List UInt8) : Prop where
  dig : ∀ c ∈ ds, isDig c = true
  ne : ds ≠ []
  len : ds.length ≤ 10
  zero : ds.head? = some 48 → ds.length = 1 ∧ m = false
def sgn (m : Bool) (n : Nat) : Int := if m then -(n : Int) else (n : Int)
def sgnL (m : Bool) : List UInt8 := if m then [45] else []
def scanNum (s : List UInt8) : Option (Int × List UInt8) :=
  let m := s.head? == some 45
  let r := if m then s.drop 1 else s
  let ds := r.takeWhile isDig
  if ds = [] ∨ 10 < ds.length ∨ (ds.head? = some 48 ∧ (1 < ds.length ∨ m = true)) then none else some (sgn m (valL ds), r.drop ds.length)
def numB (s : List UInt8) : Option Int := match Lib.atoiAll s with
  | .ok v => if 10 < (Lib.trimPrefix s [45]).length ∨ Lib.itoa v ≠ s then none else some v
  | _ => none
theorem dig_iff (c : UInt8) : isDig c = true ↔ 48 ≤ c.toNat ∧ c.toNat ≤ 57 := by unfold isDig; simp
theorem take_dig : ∀ (ds t : List UInt8), (∀ c ∈ ds, isDig c = true) → (t = [] ∨ ∃ c u, t = c :: u ∧ isDig c = false) → (ds ++ t).takeWhile isDig = ds
  | [], t, h, ht => by
    rcases ht with rfl | ⟨c, u, rfl, hc⟩
    · rfl
    · simp [hc]
  | d :: ds, t, h, ht => by
    have := take_dig ds t (fun c hc => h c (List.mem_cons_of_mem _ hc)) ht
    simp only [List.cons_append, List.takeWhile, h d List.mem_cons_self, this]
theorem drop_take (s : List UInt8) : ∃ t, s = s.takeWhile isDig ++ t ∧ s.drop (s.takeWhile isDig).length = t ∧ (t = [] ∨ ∃ c u, t = c :: u ∧ isDig c = false) := by
  induction s with
  | nil => exact ⟨[], rfl, rfl, Or.inl rfl⟩
  | cons x s ih =>
    obtain ⟨t, h1, h2, h3⟩ := ih
    cases hx : isDig x
    · exact ⟨x :: s, by simp [List.takeWhile, hx], by simp [List.takeWhile, hx], Or.inr ⟨x, s, rfl, hx⟩⟩
    · refine ⟨t, ?_, ?_, h3⟩
      · simp only [List.takeWhile, hx, List.cons_append]
        rw [← h1]
      · simp only [List.takeWhile, hx, List.length_cons, List.drop_succ_cons]
        exact h2
theorem scan_of (m : Bool) (ds t : List UInt8) (h : NumOk m ds) (ht : t = [] ∨ ∃ c u, t = c :: u ∧ isDig c = false) : scanNum (sgnL m ++ ds ++ t) = some (sgn m (valL ds), t) := by
  obtain ⟨d, ds', rfl⟩ : ∃ d ds', ds = d :: ds' := by
    cases ds with
    | nil => exact absurd rfl h.ne
    | cons d ds' => exact ⟨d, ds', rfl⟩
  have hd := (dig_iff d).1 (h.dig d List.mem_cons_self)
  have hz := h.zero
  have hl := h.len
  have hnz : ¬ ((d :: ds').head? = some 48 ∧ (1 < (d :: ds').length ∨ m = true)) := by
    rintro ⟨e, e2⟩
    obtain ⟨z1, z2⟩ := hz e
    rcases e2 with e2 | e2
    · omega
    · rw [z2] at e2; cases e2
  have htk := take_dig (d :: ds') t h.dig ht
  unfold scanNum
  cases m
  · have e1 : ((sgnL false ++ d :: ds' ++ t).head? == some 45) = false := by
      simp only [sgnL, Bool.false_eq_true, if_false, List.nil_append, List.cons_append, List.head?_cons, beq_eq_false_iff_ne, ne_eq, Option.some.injEq]
      intro e
      rw [e] at hd
      exact absurd hd.1 (by decide)
    simp only [e1, Bool.false_eq_true, if_false]
    have e0 : sgnL false ++ d :: ds' ++ t = d :: ds' ++ t := rfl
    rw [e0, htk, if_neg (fun hh => by rcases hh with hh | hh | hh; exact h.ne hh; omega; exact hnz ⟨hh.1, by simpa using hh.2⟩)]
    rw [List.drop_left]
  · have e1 : ((sgnL true ++ d :: ds' ++ t).head? == some 45) = true := by simp [sgnL]
    simp only [e1, if_true]
    have e0 : (sgnL true ++ d :: ds' ++ t).drop 1 = d :: ds' ++ t := rfl
    rw [e0, htk, if_neg (fun hh => by rcases hh with hh | hh | hh; exact h.ne hh; omega; exact hnz ⟨hh.1, by simp⟩)]
    rw [List.drop_left]
theorem of_scan {s t : List UInt8} {v : Int} (h : scanNum s = some (v, t)) : ∃ m ds, s = sgnL m ++ ds ++ t ∧ NumOk m ds ∧ v = sgn m (valL ds) ∧ (t = [] ∨ ∃ c u, t = c :: u ∧ isDig c = false) := by
  obtain ⟨m, hm⟩ : ∃ m, (s.head? == some 45) = m := ⟨_, rfl⟩
  obtain ⟨r, hr⟩ : ∃ r, (if m = true then s.drop 1 else s) = r := ⟨_, rfl⟩
  have h' : (if r.takeWhile isDig = [] ∨ 10 < (r.takeWhile isDig).length ∨ ((r.takeWhile isDig).head? = some 48 ∧ (1 < (r.takeWhile isDig).length ∨ m = true)) then none else some (sgn m (valL (r.takeWhile isDig)), r.drop (r.takeWhile isDig).length)) = some (v, t) := by
    unfold scanNum at h
    simp only [hm, hr] at h
    exact h
  clear h
  obtain ⟨u, h1, h2, h3⟩ := drop_take r
  by_cases hn : r.takeWhile isDig = [] ∨ 10 < (r.takeWhile isDig).length ∨ ((r.takeWhile isDig).head? = some 48 ∧ (1 < (r.takeWhile isDig).length ∨ m = true))
  · rw [if_pos hn] at h'
    cases h'
  · rw [if_neg hn, Option.some.injEq, Prod.mk.injEq] at h'
    obtain ⟨rfl, rfl⟩ := h'
    rw [h2]
    have hall : ∀ (l : List UInt8), ∀ c ∈ l.takeWhile isDig, isDig c = true := by
      intro l
      induction l with
      | nil => intro c hc; cases hc
      | cons x l ih =>
        intro c hc
        cases hx : isDig x
        · simp [hx] at hc
        · simp only [List.takeWhile, hx, List.mem_cons] at hc
          rcases hc with rfl | hc
          · exact hx
          · exact ih c hc
    refine ⟨m, r.takeWhile isDig, ?_, ⟨hall r, fun e => hn (Or.inl e), ?_, ?_⟩, rfl, h3⟩
    · rw [List.append_assoc, ← h1, ← hr]
      cases m
      · rfl
      · cases s with
        | nil => simp at hm
        | cons x s =>
          simp at hm
          subst hm
          rfl
    · by_cases q : 10 < (r.takeWhile isDig).length
      · exact absurd (Or.inr (Or.inl q)) hn
      · omega
    · intro e
      have hnz : ¬ (1 < (r.takeWhile isDig).length ∨ m = true) := fun q => hn (Or.inr (Or.inr ⟨e, q⟩))
      refine ⟨?_, ?_⟩
      · have h0 : (r.takeWhile isDig).length ≠ 0 := by
          intro q
          rw [List.length_eq_zero_iff] at q
          rw [q] at e
          cases e
        have : ¬ 1 < (r.takeWhile isDig).length := fun q => hnz (Or.inl q)
        omega
      · cases m
        · rfl
        · exact absurd (Or.inr rfl) hnz
/-! ### The number that the program reads -/
theorem dig_sub (c : UInt8) (h : isDig c = true) : UInt8.ofNat (48 + (c.toNat - 48)) = c := by
  have := (dig_iff c).1 h
  apply UInt8.toNat_inj.1
  rw [UInt8.toNat_ofNat']
  omega
/-- Digits with no 0 ahead are the digits of their number. -/
theorem digits_of : ∀ (n : Nat) (ds : List UInt8), ds.length = n + 1 → (∀ c ∈ ds, isDig c = true) → (ds.head? = some 48 → ds.length = 1) → Lib.decDigits (valL ds) = ds ∧ (ds.head? ≠ some 48 → 1 ≤ valL ds)
  | 0, ds, hl, hd, hz => by
    match ds, hl with
    | [d], _ =>
      have h1 := (dig_iff d).1 (hd d List.mem_cons_self)
      have e : valL [d] = d.toNat - 48 := by simp [valL]
      rw [e, Lib.decDigits_one (by omega), dig_sub d (hd d List.mem_cons_self)]
      refine ⟨rfl, fun hne => ?_⟩
      have : d.toNat ≠ 48 := fun e2 => hne (by simp only [List.head?_cons, Option.some.injEq]; exact UInt8.toNat_inj.1 e2)
      omega
  | n + 1, ds, hl, hd, hz => by
    obtain ⟨xs, x, rfl⟩ : ∃ xs x, ds = xs ++ [x] := ⟨ds.dropLast, ds.getLast (by intro e; rw [e] at hl; simp at hl), (List.dropLast_concat_getLast _).symm⟩
    have hxl : xs.length = n + 1 := by simpa using hl
    have hh : (xs ++ [x]).head? = xs.head? := by
      cases xs with
      | nil => simp at hxl
      | cons a b => rfl
    have hne : (xs ++ [x]).head? ≠ some 48 := fun e => by
      have := hz e
      omega
    rw [hh] at hne
    obtain ⟨i1, i2⟩ := digits_of n xs hxl (fun c hc => hd c (List.mem_append_left _ hc)) (fun e => absurd e hne)
    have hx := hd x (List.mem_append_right _ List.mem_cons_self)
    have hx1 := (dig_iff x).1 hx
    have h1 := i2 hne
    rw [valL_snoc]
    refine ⟨?_, fun _ => by omega⟩
    rw [Lib.decDigits, dif_neg (by omega), show (valL xs * 10 + (x.toNat - 48)) / 10 = valL xs by omega, show (valL xs * 10 + (x.toNat - 48)) % 10 = x.toNat - 48 by omega, i1, dig_sub x hx]
theorem val_lt : ∀ (ds : List UInt8) (a : Nat), (∀ c ∈ ds, isDig c = true) → ds.foldl (fun v c => v * 10 + (c.toNat - 48)) a < (a + 1) * 10 ^ ds.length
  | [], a, _ => by simp
  | d :: ds, a, h => by
    have hd := (dig_iff d).1 (h d List.mem_cons_self)
    have := val_lt ds (a * 10 + (d.toNat - 48)) (fun c hc => h c (List.mem_cons_of_mem _ hc))
    simp only [List.foldl_cons, List.length_cons, Nat.pow_succ]
    refine Nat.lt_of_lt_of_le this ?_
    rw [Nat.mul_comm (10 ^ ds.length) 10, ← Nat.mul_assoc]
    exact Nat.mul_le_mul_right _ (by omega)
theorem parse_dig : ∀ (ds : List UInt8) (a : Nat), (∀ c ∈ ds, isDig c = true) → (a + 1) * 10 ^ ds.length ≤ 10000000000 → Lib.parseUint10 a ds = .ok (ds.foldl (fun v c => v * 10 + (c.toNat - 48)) a)
  | [], a, _, _ => rfl
  | d :: ds, a, h, hb => by
    have hd := (dig_iff d).1 (h d List.mem_cons_self)
    have hp : 1 ≤ 10 ^ ds.length := Nat.one_le_pow _ _ (by decide)
    have hb2 : (a * 10 + (d.toNat - 48) + 1) * 10 ^ ds.length ≤ 10000000000 := by
      refine Nat.le_trans ?_ hb
      simp only [List.length_cons, Nat.pow_succ]
      rw [Nat.mul_comm (10 ^ ds.length) 10, ← Nat.mul_assoc]
      exact Nat.mul_le_mul_right _ (by omega)
    have hs : a * 10 + (d.toNat - 48) + 1 ≤ 10000000000 := Nat.le_trans (Nat.le_mul_of_pos_right _ hp) hb2
    unfold Lib.parseUint10
    rw [if_pos hd, if_neg (by omega), if_neg (by omega), parse_dig ds _ (fun c hc => h c (List.mem_cons_of_mem _ hc)) hb2]
    rfl
theorem num_of (m : Bool) (ds : List UInt8) (h : NumOk m ds) : numB (sgnL m ++ ds) = some (sgn m (valL ds)) := by
  obtain ⟨n, hn⟩ : ∃ n, ds.length = n + 1 := ⟨ds.length - 1, by have := h.ne; cases ds with | nil => exact absurd rfl this | cons => simp⟩
  obtain ⟨h1, h2⟩ := digits_of n ds hn h.dig (fun e => (h.zero e).1)
  have hlt := val_lt ds 0 h.dig
  have hpw : (0 + 1) * 10 ^ ds.length ≤ 10000000000 := by
    rw [Nat.zero_add, Nat.one_mul]
    exact Nat.le_trans (Nat.pow_le_pow_right (by decide) h.len) (by decide)
  have hpz : Lib.parseUint10 0 ds = .ok (valL ds) := parse_dig ds 0 h.dig hpw
  have hv : valL ds < 10000000000 := Nat.lt_of_lt_of_le hlt hpw
  have hm : Lib.parseMag ds = .ok (valL ds) := by unfold Lib.parseMag; rw [if_neg h.ne, hpz]
  obtain ⟨d, ds', rfl⟩ : ∃ d ds', ds = d :: ds' := by
    cases ds with
    | nil => exact absurd rfl h.ne
    | cons d ds' => exact ⟨d, ds', rfl⟩
  have hd := (dig_iff d).1 (h.dig d List.mem_cons_self)
  have hl := h.len
  cases m
  · have ha : Lib.atoiAll (d :: ds') = .ok ((valL (d :: ds') : Nat) : Int) := by
      rw [Lib.atoiAll_plain d ds' (by omega) (by omega), hm]
      unfold Lib.signless
      simp only
      rw [if_neg (by omega)]
    have hi : Lib.itoa ((valL (d :: ds') : Nat) : Int) = d :: ds' := by
      unfold Lib.itoa
      rw [if_neg (by omega), Int.toNat_natCast, h1]
    have ht : (Lib.trimPrefix (d :: ds') [45]) = d :: ds' := by
      unfold Lib.trimPrefix Lib.hasPrefix
      have : ([45] : List UInt8).isPrefixOf (d :: ds') = false := by
        rw [pre_one]; exact beq_eq_false_iff_ne.2 fun e => by rw [← e] at hd; exact absurd hd.1 (by decide)
      rw [this]; rfl
    show numB (d :: ds') = _
    unfold numB
    rw [ha]
    simp only
    rw [if_neg (by rw [ht]; intro q; rcases q with q | q; omega; exact q hi)]
    rfl
  · have hz : 1 ≤ valL (d :: ds') := h2 fun e => by have := (h.zero e).2; cases this
    have ha : Lib.atoiAll (45 :: d :: ds') = .ok (-((valL (d :: ds') : Nat) : Int)) := by
      rw [Lib.atoiAll_minus, hm]
      unfold Lib.signed
      simp only
      rw [if_neg (by omega)]
    have hi : Lib.itoa (-((valL (d :: ds') : Nat) : Int)) = 45 :: d :: ds' := by
      unfold Lib.itoa
      rw [if_pos (by omega), Int.natAbs_neg, Int.natAbs_natCast, h1]
    have ht : (Lib.trimPrefix (45 :: d :: ds') [45]) = d :: ds' := by
      unfold Lib.trimPrefix Lib.hasPrefix
      have : ([45] : List UInt8).isPrefixOf (45 :: d :: ds') = true := by rw [pre_one]; rfl
      rw [this]; rfl
    show numB (45 :: d :: ds') = _
    unfold numB
    rw [ha]
    simp only
    rw [if_neg (by rw [ht]; intro q; rcases q with q | q; omega; exact q hi)]
    rfl
theorem of_num {q : List UInt8} {v : Int} (h : numB q = some v) : ∃ m ds, q = sgnL m ++ ds ∧ NumOk m ds ∧ v = sgn m (valL ds) := by
  unfold numB at h
  split at h
  · rename_i v' ha
    split at h
    · cases h
    · rename_i hn
      have hv : v' = v := Option.some.inj h
      subst hv
      have hq : Lib.itoa v' = q := by
        by_cases e : Lib.itoa v' = q
        · exact e
        · exact absurd (Or.inr e) hn
      have ht : ¬ 10 < (Lib.trimPrefix q [45]).length := fun e => hn (Or.inl e)
      have dn : ∀ u, Lib.decDigits u ≠ [] := by
        intro u e
        rw [Lib.decDigits] at e
        split at e <;> simp at e
      have dz : ∀ u, (Lib.decDigits u).head? = some 48 → u = 0 := by
        intro u hu
        by_cases h0 : u = 0
        · exact h0
        · exfalso
          have hne : ∀ u : Nat, u ≠ 0 → (Lib.decDigits u).head? ≠ some 48 := by
            intro u
            induction u using Nat.strongRecOn with
            | _ u ih =>
              intro hu0
              by_cases h10 : u < 10
              · rw [Lib.decDigits_one h10]
                simp only [List.head?_cons, ne_eq, Option.some.injEq]
                intro e
                have := congrArg UInt8.toNat e
                rw [dig_num u h10] at this
                have e48 : (48 : UInt8).toNat = 48 := rfl
                omega
              · rw [Lib.decDigits, dif_neg h10]
                have hx := ih (u / 10) (by omega) (by omega)
                cases hdd : Lib.decDigits (u / 10) with
                | nil => exact absurd hdd (dn _)
                | cons a b => rw [hdd] at hx; exact hx
          exact hne u h0 hu
      have dd : ∀ u, ∀ c ∈ Lib.decDigits u, isDig c = true := fun u c hc => (dig_iff c).2 (dig_chars u c hc)
      unfold Lib.itoa at hq
      split at hq
      · rename_i hneg
        refine ⟨true, Lib.decDigits v'.natAbs, by rw [← hq]; rfl, ⟨dd _, dn _, ?_, fun e => ?_⟩, ?_⟩
        · rw [← hq] at ht
          have : Lib.trimPrefix (45 :: Lib.decDigits v'.natAbs) [45] = Lib.decDigits v'.natAbs := by
            unfold Lib.trimPrefix Lib.hasPrefix
            have : ([45] : List UInt8).isPrefixOf (45 :: Lib.decDigits v'.natAbs) = true := by rw [pre_one]; rfl
            rw [this]; rfl
          rw [this] at ht
          omega
        · have := dz _ e
          omega
        · rw [val_dig]
          unfold sgn
          rw [if_pos rfl]
          omega
      · rename_i hpos
        refine ⟨false, Lib.decDigits v'.toNat, by rw [← hq]; rfl, ⟨dd _, dn _, ?_, fun e => ?_⟩, ?_⟩
        · rw [← hq] at ht
          have : Lib.trimPrefix (Lib.decDigits v'.toNat) [45] = Lib.decDigits v'.toNat := by
            unfold Lib.trimPrefix Lib.hasPrefix
            have : ([45] : List UInt8).isPrefixOf (Lib.decDigits v'.toNat) = false := by
              cases hdd : Lib.decDigits v'.toNat with
              | nil => rfl
              | cons a b =>
                rw [pre_one]
                refine beq_eq_false_iff_ne.2 fun e => ?_
                have h1 := (dig_iff a).1 (dd v'.toNat a (by rw [hdd]; exact List.mem_cons_self))
                rw [← e] at h1
                exact absurd h1.1 (by decide)
            rw [this]; rfl
          rw [this] at ht
          omega
        · have := dz _ e
          rw [this, Lib.decDigits_one (by decide)]
          exact ⟨rfl, rfl⟩
        · rw [val_dig]
          unfold sgn
          rw [if_neg (by decide)]
          omega
  · cases h
/-- What is read of a place is a piece's number, and the other way. -/
theorem scan_num {q t : List UInt8} {v : Int} (h : numB q = some v) (ht : t = [] ∨ ∃ c u, t = c :: u ∧ isDig c = false) : scanNum (q ++ t) = some (v, t) := by
  obtain ⟨m, ds, rfl, h1, rfl⟩ := of_num h
  exact scan_of m ds t h1 ht
theorem num_scan {s t : List UInt8} {v : Int} (h : scanNum s = some (v, t)) : ∃ q, s = q ++ t ∧ numB q = some v ∧ (t = [] ∨ ∃ c u, t = c :: u ∧ isDig c = false) ∧ ∀ c ∈ q, c = 45 ∨ isDig c = true := by
  obtain ⟨m, ds, rfl, h1, rfl, h2⟩ := of_scan h
  refine ⟨sgnL m ++ ds, rfl, num_of m ds h1, h2, fun c hc => ?_⟩
  rcases List.mem_append.1 hc with hc | hc
  · cases m
    · cases hc
    · exact Or.inl (List.mem_singleton.1 hc)
  · exact Or.inr (h1.dig c hc)
theorem num_chars {q : List UInt8} {v : Int} (h : numB q = some v) : ∀ c ∈ q, c = 45 ∨ isDig c = true := by
  obtain ⟨m, ds, rfl, h1, rfl⟩ := of_num h
  intro c hc
  rcases List.mem_append.1 hc with hc | hc
  · cases m
    · cases hc
    · exact Or.inl (List.mem_singleton.1 hc)
  · exact Or.inr (h1.dig c hc)
end Go.Proofs.YtnppegldebocmaaGreatDoor
