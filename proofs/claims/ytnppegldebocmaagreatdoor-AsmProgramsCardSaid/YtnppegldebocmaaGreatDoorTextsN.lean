/- The plain law of texts: an instruction's text is read as it; a text that is read is its instruction's. No program in sight. Conditions: as each theorem states. How long a good instruction's text is; which codes reading gives. No program in sight. Conditions: as each theorem states. -/
import Derived.Test.YtnppegldebocmaaGreatDoorParseT
import Derived.Test.YtnppegldebocmaaGreatDoorWordsW
import Derived.Test.YtnppegldebocmaaGreatDoorTexted
import Derived.Lib.ItoaLen
namespace Go.Proofs.YtnppegldebocmaaGreatDoor
open Go.RowKit
set_option linter.unusedVariables false
theorem cutC_none (c : UInt8) : ∀ a : List UInt8, c ∉ a → cutC c a = (a, [], false)
  | [], _ => rfl
  | x :: a, h => by
    have hx : x ≠ c := fun e => h (by rw [e]; exact List.mem_cons_self)
    simp only [cutC, if_neg hx, cutC_none c a fun hc => h (List.mem_cons_of_mem _ hc)]
theorem split2_join : ∀ (r : List (List UInt8)) (x : List UInt8), (44 : UInt8) ∉ x → (∀ y ∈ r, (44 : UInt8) ∉ y) → split2 (x ++ Lib.joinTail [44, 32] r) = x :: r
  | [], x, hx, _ => by
    have := (split2_tok x [] hx).1 rfl
    simpa [Lib.joinTail] using this
  | y :: r, x, hx, hr => by
    have e : Lib.joinTail [44, 32] (y :: r) = 44 :: 32 :: (y ++ Lib.joinTail [44, 32] r) := by simp [Lib.joinTail]
    rw [e, (split2_tok x _ hx).2 _ rfl, split2_join r y (hr y List.mem_cons_self) fun z hz => hr z (List.mem_cons_of_mem _ hz)]
theorem join_split2 : ∀ (n : Nat) (s : List UInt8), s.length ≤ n → Lib.join (split2 s) [44, 32] = s
  | n, s, hn => by
    rcases split2_first s.length s (Nat.le_refl _) with ⟨p, h1, h2, _⟩ | ⟨p, r, h1, h2, _⟩
    · rw [h1, Lib.join_one, ← h2]
    · match n, hn with
      | 0, hn => rw [h2] at hn; simp at hn
      | n + 1, hn =>
        have ih := join_split2 n r (by rw [h2] at hn; simp at hn; omega)
        have hne := split2_ne r
        cases hr : split2 r with
        | nil => exact absurd hr hne
        | cons a b =>
          rw [hr, Lib.join_cons] at ih
          rw [h1, hr, Lib.join_cons, h2]
          have e : Lib.joinTail [44, 32] (a :: b) = 44 :: 32 :: (a ++ Lib.joinTail [44, 32] b) := by simp [Lib.joinTail]
          rw [e, ih]
theorem read_codes' (i : InsN) (c : UInt8) (p : List UInt8) : (readB i c p).2 = 0 ∨ (readB i c p).2 = 1 ∨ (readB i c p).2 = 2 := by
  have hr : ∀ p, (regB p).2 = 0 ∨ (regB p).2 = 1 ∨ (regB p).2 = 2 := reg_codes
  have hl : ∀ c s, (layB i c s).2 = 0 ∨ (layB i c s).2 = 1 ∨ (layB i c s).2 = 2 := by
    intro c s
    cases h : numB s with
    | none => rw [layB_none h]; exact Or.inr (Or.inl rfl)
    | some v => rcases lay_codes i c s h with q | q <;> rw [q] <;> simp
  unfold readB
  split
  · exact hr p
  · split
    · exact hr p
    · split
      · exact hr p
      · split
        · unfold addrB
          split
          · split
            · exact Or.inr (Or.inl rfl)
            · split
              · exact Or.inr (Or.inl rfl)
              · split
                · exact hl _ _
                · exact hr _
          · exact Or.inr (Or.inl rfl)
        · exact hl _ _
theorem loop_two : ∀ (o : List UInt8) (L : List (List UInt8)) (i x : InsN), loopB o L i 2 ≠ (x, 0)
  | [], _, i, x => by simp [loopB]
  | _ :: _, [], i, x => by simp [loopB]
  | c :: o, p :: ps, i, x => by
    rw [loopB]
    split
    · simp
    · exact loop_two o ps _ x
theorem loop_zero {c : UInt8} {o : List UInt8} {p : List UInt8} {ps : List (List UInt8)} {i x : InsN} (h : loopB (c :: o) (p :: ps) i 0 = (x, 0)) : (readB i c p).2 = 0 ∧ loopB o ps (readB i c p).1 0 = (x, 0) := by
  rw [loopB] at h
  split at h
  · simp at h
  · rename_i h1
    rw [if_pos rfl] at h
    have h0 : (readB i c p).2 = 0 := by
      by_cases h0 : (readB i c p).2 = 0
      · exact h0
      · exfalso
        have hc : (readB i c p).2 = 2 := by
          have := read_codes' i c p
          omega
        rw [hc] at h
        exact loop_two o ps _ x h
    rw [h0] at h
    exact ⟨h0, h⟩
theorem loop_nil {L : List (List UInt8)} {i x : InsN} (h : loopB [] L i 0 = (x, 0)) : x = i := by
  simp [loopB] at h
  exact h.symm
theorem rz_83 {j : InsN} {p : List UInt8} (h : (readB j 83 p).2 = 0) : ∃ n, p = 36 :: Lib.itoa n ∧ 0 ≤ n ∧ n < 32 ∧ (readB j 83 p).1 = ⟨j.op, n, j.t, j.d, j.imm⟩ := by
  obtain ⟨h1, h2, h3⟩ := reg_read (show (regB p).2 = 0 from h)
  exact ⟨_, h1, h2, h3, rfl⟩
theorem rw_83 (j : InsN) (n : Int) (h0 : 0 ≤ n) (h1 : n < 32) : readB j 83 (36 :: Lib.itoa n) = (⟨j.op, n, j.t, j.d, j.imm⟩, 0) := by
  have e : readB j 83 (36 :: Lib.itoa n) = (⟨j.op, (regB (36 :: Lib.itoa n)).1, j.t, j.d, j.imm⟩, (regB (36 :: Lib.itoa n)).2) := rfl
  rw [e, reg_itoa n h0 h1]
theorem rz_84 {j : InsN} {p : List UInt8} (h : (readB j 84 p).2 = 0) : ∃ n, p = 36 :: Lib.itoa n ∧ 0 ≤ n ∧ n < 32 ∧ (readB j 84 p).1 = ⟨j.op, j.s, n, j.d, j.imm⟩ := by
  obtain ⟨h1, h2, h3⟩ := reg_read (show (regB p).2 = 0 from h)
  exact ⟨_, h1, h2, h3, rfl⟩
theorem rw_84 (j : InsN) (n : Int) (h0 : 0 ≤ n) (h1 : n < 32) : readB j 84 (36 :: Lib.itoa n) = (⟨j.op, j.s, n, j.d, j.imm⟩, 0) := by
  have e : readB j 84 (36 :: Lib.itoa n) = (⟨j.op, j.s, (regB (36 :: Lib.itoa n)).1, j.d, j.imm⟩, (regB (36 :: Lib.itoa n)).2) := rfl
  rw [e, reg_itoa n h0 h1]
theorem rz_68 {j : InsN} {p : List UInt8} (h : (readB j 68 p).2 = 0) : ∃ n, p = 36 :: Lib.itoa n ∧ 0 ≤ n ∧ n < 32 ∧ (readB j 68 p).1 = ⟨j.op, j.s, j.t, n, j.imm⟩ := by
  obtain ⟨h1, h2, h3⟩ := reg_read (show (regB p).2 = 0 from h)
  exact ⟨_, h1, h2, h3, rfl⟩
theorem rw_68 (j : InsN) (n : Int) (h0 : 0 ≤ n) (h1 : n < 32) : readB j 68 (36 :: Lib.itoa n) = (⟨j.op, j.s, j.t, n, j.imm⟩, 0) := by
  have e : readB j 68 (36 :: Lib.itoa n) = (⟨j.op, j.s, j.t, (regB (36 :: Lib.itoa n)).1, j.imm⟩, (regB (36 :: Lib.itoa n)).2) := rfl
  rw [e, reg_itoa n h0 h1]
theorem rz_110 {j : InsN} {p : List UInt8} (h : (readB j 110 p).2 = 0) : ∃ n : Int, p = Lib.itoa n ∧ -32768 ≤ n ∧ n ≤ 32767 ∧ (readB j 110 p).1 = ⟨j.op, j.s, j.t, j.d, n % 65536⟩ := by
  have e : readB j 110 p = layB j 110 p := rfl
  rw [e] at h ⊢
  obtain ⟨n, h1, h2, h3, h4⟩ := lay_read h
  have hb : bndL 110 = (-32768, 32767) := by decide
  rw [hb] at h2 h3
  have hi : immOf 110 n = n % 65536 := by simp only at h2 h3; unfold immOf; rw [if_pos (Or.inl rfl)]
  exact ⟨n, h1, h2, h3, by rw [h4, hi]⟩
theorem rw_110 (j : InsN) (n : Int) (h0 : -32768 ≤ n) (h1 : n ≤ 32767) : readB j 110 (Lib.itoa n) = (⟨j.op, j.s, j.t, j.d, n % 65536⟩, 0) := by
  have e : readB j 110 (Lib.itoa n) = layB j 110 (Lib.itoa n) := rfl
  have hb : bndL 110 = (-32768, 32767) := by decide
  have hi : immOf 110 n = n % 65536 := by unfold immOf; rw [if_pos (Or.inl rfl)]
  rw [e, layB_some (num_itoa n (by omega) (by omega)), hb, if_neg (by simp only; omega), hi]
theorem rz_97 {j : InsN} {p : List UInt8} (h : (readB j 97 p).2 = 0) : ∃ n : Int, p = Lib.itoa n ∧ 0 ≤ n ∧ n ≤ 31 ∧ (readB j 97 p).1 = ⟨j.op, j.s, j.t, j.d, n⟩ := by
  have e : readB j 97 p = layB j 97 p := rfl
  rw [e] at h ⊢
  obtain ⟨n, h1, h2, h3, h4⟩ := lay_read h
  have hb : bndL 97 = (0, 31) := by decide
  rw [hb] at h2 h3
  have hi : immOf 97 n = n := by simp only at h2 h3; unfold immOf; rw [if_neg (by decide)]; omega
  exact ⟨n, h1, h2, h3, by rw [h4, hi]⟩
theorem rw_97 (j : InsN) (n : Int) (h0 : 0 ≤ n) (h1 : n ≤ 31) : readB j 97 (Lib.itoa n) = (⟨j.op, j.s, j.t, j.d, n⟩, 0) := by
  have e : readB j 97 (Lib.itoa n) = layB j 97 (Lib.itoa n) := rfl
  have hb : bndL 97 = (0, 31) := by decide
  have hi : immOf 97 n = n := by unfold immOf; rw [if_neg (by decide)]; omega
  rw [e, layB_some (num_itoa n (by omega) (by omega)), hb, if_neg (by simp only; omega), hi]
theorem rz_117 {j : InsN} {p : List UInt8} (h : (readB j 117 p).2 = 0) : ∃ n : Int, p = Lib.itoa n ∧ 0 ≤ n ∧ n ≤ 65535 ∧ (readB j 117 p).1 = ⟨j.op, j.s, j.t, j.d, n⟩ := by
  have e : readB j 117 p = layB j 117 p := rfl
  rw [e] at h ⊢
  obtain ⟨n, h1, h2, h3, h4⟩ := lay_read h
  have hb : bndL 117 = (0, 65535) := by decide
  rw [hb] at h2 h3
  have hi : immOf 117 n = n := by simp only at h2 h3; unfold immOf; rw [if_neg (by decide)]; omega
  exact ⟨n, h1, h2, h3, by rw [h4, hi]⟩
theorem rw_117 (j : InsN) (n : Int) (h0 : 0 ≤ n) (h1 : n ≤ 65535) : readB j 117 (Lib.itoa n) = (⟨j.op, j.s, j.t, j.d, n⟩, 0) := by
  have e : readB j 117 (Lib.itoa n) = layB j 117 (Lib.itoa n) := rfl
  have hb : bndL 117 = (0, 65535) := by decide
  have hi : immOf 117 n = n := by unfold immOf; rw [if_neg (by decide)]; omega
  rw [e, layB_some (num_itoa n (by omega) (by omega)), hb, if_neg (by simp only; omega), hi]
theorem rz_106 {j : InsN} {p : List UInt8} (h : (readB j 106 p).2 = 0) : ∃ n : Int, p = Lib.itoa n ∧ 0 ≤ n ∧ n ≤ 67108863 ∧ (readB j 106 p).1 = ⟨j.op, j.s, j.t, j.d, n⟩ := by
  have e : readB j 106 p = layB j 106 p := rfl
  rw [e] at h ⊢
  obtain ⟨n, h1, h2, h3, h4⟩ := lay_read h
  have hb : bndL 106 = (0, 67108863) := by decide
  rw [hb] at h2 h3
  have hi : immOf 106 n = n := by simp only at h2 h3; unfold immOf; rw [if_neg (by decide)]; omega
  exact ⟨n, h1, h2, h3, by rw [h4, hi]⟩
theorem rw_106 (j : InsN) (n : Int) (h0 : 0 ≤ n) (h1 : n ≤ 67108863) : readB j 106 (Lib.itoa n) = (⟨j.op, j.s, j.t, j.d, n⟩, 0) := by
  have e : readB j 106 (Lib.itoa n) = layB j 106 (Lib.itoa n) := rfl
  have hb : bndL 106 = (0, 67108863) := by decide
  have hi : immOf 106 n = n := by unfold immOf; rw [if_neg (by decide)]; omega
  rw [e, layB_some (num_itoa n (by omega) (by omega)), hb, if_neg (by simp only; omega), hi]
theorem rz_109 {j : InsN} {p : List UInt8} (h : (readB j 109 p).2 = 0) : ∃ n k : Int, p = Lib.itoa n ++ ([40, 36] ++ (Lib.itoa k ++ [41])) ∧ -32768 ≤ n ∧ n ≤ 32767 ∧ 0 ≤ k ∧ k < 32 ∧ (readB j 109 p).1 = ⟨j.op, k, j.t, j.d, n % 65536⟩ := addr_read h
theorem rw_109 (j : InsN) (n k : Int) (h0 : -32768 ≤ n) (h1 : n ≤ 32767) (g0 : 0 ≤ k) (g1 : k < 32) : readB j 109 (Lib.itoa n ++ ([40, 36] ++ (Lib.itoa k ++ [41]))) = (⟨j.op, k, j.t, j.d, n % 65536⟩, 0) := addr_itoa j n k h0 h1 g0 g1
theorem well_of {n : Int} {b : Bool} (h : wellB n b = true) : 0 ≤ n ∧ n < 32 ∧ (b = false → n = 0) := by
  unfold wellB at h
  simp only [Bool.or_eq_true, Bool.and_eq_true, decide_eq_true_eq] at h
  rcases h with h | ⟨⟨h1, h2⟩, h3⟩
  · exact ⟨by omega, by omega, fun _ => h⟩
  · exact ⟨by omega, h3, fun e => by rw [e] at h1; cases h1⟩
theorem well_zero (b : Bool) : wellB 0 b = true := rfl
theorem well_in (n : Int) (h0 : 0 ≤ n) (h1 : n < 32) : wellB n true = true := by
  unfold wellB
  simp only [Bool.or_eq_true, Bool.and_eq_true, decide_eq_true_eq]
  by_cases h : n = 0
  · exact Or.inl h
  · exact Or.inr ⟨⟨trivial, by omega⟩, h1⟩
/-- The operands of an instruction are read as it. -/
theorem loop_text (i : InsN) (k : Nat) (h1 : 1 ≤ k) (hk : k < 54) (hop : i.op = (k : Int)) (m0 : 0 ≤ i.imm) (hg : encBad i = false) : loopB (orderB k) ((orderB k).map (opdB i)) ⟨(k : Int), 0, 0, 0, 0⟩ 0 = (i, 0) := by
  obtain ⟨ws, wt, wd, wm⟩ := good_wells i k hop m0 hg
  obtain ⟨s0, s1, s2⟩ := well_of ws
  obtain ⟨t0, t1, t2⟩ := well_of wt
  obtain ⟨d0, d1, d2⟩ := well_of wd
  obtain ⟨op, s, t, d, m⟩ := i
  simp only at hop m0 s0 s1 s2 t0 t1 t2 d0 d1 d2 wm
  subst hop
  have o83 : opdB ⟨(k : Int), s, t, d, m⟩ 83 = 36 :: Lib.itoa s := rfl
  have o84 : opdB ⟨(k : Int), s, t, d, m⟩ 84 = 36 :: Lib.itoa t := rfl
  have o68 : opdB ⟨(k : Int), s, t, d, m⟩ 68 = 36 :: Lib.itoa d := rfl
  have o110 : opdB ⟨(k : Int), s, t, d, m⟩ 110 = Lib.itoa (immS m) := rfl
  have o109 : opdB ⟨(k : Int), s, t, d, m⟩ 109 = Lib.itoa (immS m) ++ ([40, 36] ++ (Lib.itoa s ++ [41])) := rfl
  have o97 : opdB ⟨(k : Int), s, t, d, m⟩ 97 = Lib.itoa m := rfl
  have o117 : opdB ⟨(k : Int), s, t, d, m⟩ 117 = Lib.itoa m := rfl
  have o106 : opdB ⟨(k : Int), s, t, d, m⟩ 106 = Lib.itoa m := rfl
  clear ws wt wd hg
  rcases orders k hk h1 with ⟨eo, ef⟩ | ⟨eo, ef⟩ | ⟨eo, ef⟩ | ⟨eo, ef⟩ | ⟨eo, ef⟩ | ⟨eo, ef⟩ | ⟨eo, ef⟩ | ⟨eo, ef⟩ | ⟨eo, ef⟩ | ⟨eo, ef⟩ | ⟨eo, ef⟩ | ⟨eo, ef⟩ | ⟨eo, ef⟩ | ⟨eo, ef⟩ | ⟨eo, ef⟩ | ⟨eo, ef⟩
  · rw [ef] at wm s2 t2 d2
    rw [eo]
    have hm : m ≤ 0 := wm
    have hs : s = 0 := s2 rfl
    subst hs
    have ht : t = 0 := t2 rfl
    subst ht
    have hd : d = 0 := d2 rfl
    subst hd
    have hmz : m = 0 := by omega
    subst hmz
    simp only [List.map_nil]
    rw [loopB, if_pos rfl]
  · rw [ef] at wm s2 t2 d2
    rw [eo]
    have hm : m ≤ 0 := wm
    have ht : t = 0 := t2 rfl
    subst ht
    have hd : d = 0 := d2 rfl
    subst hd
    have hmz : m = 0 := by omega
    subst hmz
    simp only [List.map_cons, List.map_nil, o83]
    rw [loopB, rw_83 _ s s0 s1]
    simp only [if_pos]
    rw [if_neg (by decide)]
    rw [loopB, if_pos rfl]
  · rw [ef] at wm s2 t2 d2
    rw [eo]
    have hm : m ≤ 0 := wm
    have hs : s = 0 := s2 rfl
    subst hs
    have ht : t = 0 := t2 rfl
    subst ht
    have hmz : m = 0 := by omega
    subst hmz
    simp only [List.map_cons, List.map_nil, o68]
    rw [loopB, rw_68 _ d d0 d1]
    simp only [if_pos]
    rw [if_neg (by decide)]
    rw [loopB, if_pos rfl]
  · rw [ef] at wm s2 t2 d2
    rw [eo]
    have hm : m ≤ 0 := wm
    have ht : t = 0 := t2 rfl
    subst ht
    have hmz : m = 0 := by omega
    subst hmz
    simp only [List.map_cons, List.map_nil, o68, o83]
    rw [loopB, rw_68 _ d d0 d1]
    simp only [if_pos]
    rw [if_neg (by decide)]
    rw [loopB, rw_83 _ s s0 s1]
    simp only [if_pos]
    rw [if_neg (by decide)]
    rw [loopB, if_pos rfl]
  · rw [ef] at wm s2 t2 d2
    rw [eo]
    have hm : m ≤ 0 := wm
    have hd : d = 0 := d2 rfl
    subst hd
    have hmz : m = 0 := by omega
    subst hmz
    simp only [List.map_cons, List.map_nil, o83, o84]
    rw [loopB, rw_83 _ s s0 s1]
    simp only [if_pos]
    rw [if_neg (by decide)]
    rw [loopB, rw_84 _ t t0 t1]
    simp only [if_pos]
    rw [if_neg (by decide)]
    rw [loopB, if_pos rfl]
  · rw [ef] at wm s2 t2 d2
    rw [eo]
    have hm : m ≤ 31 := wm
    have hs : s = 0 := s2 rfl
    subst hs
    simp only [List.map_cons, List.map_nil, o68, o84, o97]
    rw [loopB, rw_68 _ d d0 d1]
    simp only [if_pos]
    rw [if_neg (by decide)]
    rw [loopB, rw_84 _ t t0 t1]
    simp only [if_pos]
    rw [if_neg (by decide)]
    rw [loopB, rw_97 _ m m0 hm]
    simp only [if_pos]
    rw [if_neg (by decide)]
    rw [loopB, if_pos rfl]
  · rw [ef] at wm s2 t2 d2
    rw [eo]
    have hm : m ≤ 0 := wm
    have hmz : m = 0 := by omega
    subst hmz
    simp only [List.map_cons, List.map_nil, o68, o84, o83]
    rw [loopB, rw_68 _ d d0 d1]
    simp only [if_pos]
    rw [if_neg (by decide)]
    rw [loopB, rw_84 _ t t0 t1]
    simp only [if_pos]
    rw [if_neg (by decide)]
    rw [loopB, rw_83 _ s s0 s1]
    simp only [if_pos]
    rw [if_neg (by decide)]
    rw [loopB, if_pos rfl]
  · rw [ef] at wm s2 t2 d2
    rw [eo]
    have hm : m ≤ 0 := wm
    have hmz : m = 0 := by omega
    subst hmz
    simp only [List.map_cons, List.map_nil, o68, o83, o84]
    rw [loopB, rw_68 _ d d0 d1]
    simp only [if_pos]
    rw [if_neg (by decide)]
    rw [loopB, rw_83 _ s s0 s1]
    simp only [if_pos]
    rw [if_neg (by decide)]
    rw [loopB, rw_84 _ t t0 t1]
    simp only [if_pos]
    rw [if_neg (by decide)]
    rw [loopB, if_pos rfl]
  · rw [ef] at wm s2 t2 d2
    rw [eo]
    have hm : m ≤ 67108863 := wm
    have hs : s = 0 := s2 rfl
    subst hs
    have ht : t = 0 := t2 rfl
    subst ht
    have hd : d = 0 := d2 rfl
    subst hd
    simp only [List.map_cons, List.map_nil, o106]
    rw [loopB, rw_106 _ m m0 hm]
    simp only [if_pos]
    rw [if_neg (by decide)]
    rw [loopB, if_pos rfl]
  · rw [ef] at wm s2 t2 d2
    rw [eo]
    have hm : m ≤ 65535 := wm
    have hd : d = 0 := d2 rfl
    subst hd
    obtain ⟨hi0, hi1, hi2⟩ := immOf_immS m m0 (by omega)
    simp only [List.map_cons, List.map_nil, o83, o84, o110]
    rw [loopB, rw_83 _ s s0 s1]
    simp only [if_pos]
    rw [if_neg (by decide)]
    rw [loopB, rw_84 _ t t0 t1]
    simp only [if_pos]
    rw [if_neg (by decide)]
    rw [loopB, rw_110 _ (immS m) hi1 hi2]
    simp only [if_pos]
    rw [if_neg (by decide)]
    rw [loopB, if_pos rfl]
    simp only [hi0]
  · rw [ef] at wm s2 t2 d2
    rw [eo]
    have hm : m ≤ 65535 := wm
    have ht : t = 0 := t2 rfl
    subst ht
    have hd : d = 0 := d2 rfl
    subst hd
    obtain ⟨hi0, hi1, hi2⟩ := immOf_immS m m0 (by omega)
    simp only [List.map_cons, List.map_nil, o83, o110]
    rw [loopB, rw_83 _ s s0 s1]
    simp only [if_pos]
    rw [if_neg (by decide)]
    rw [loopB, rw_110 _ (immS m) hi1 hi2]
    simp only [if_pos]
    rw [if_neg (by decide)]
    rw [loopB, if_pos rfl]
    simp only [hi0]
  · rw [ef] at wm s2 t2 d2
    rw [eo]
    have hm : m ≤ 65535 := wm
    have hd : d = 0 := d2 rfl
    subst hd
    obtain ⟨hi0, hi1, hi2⟩ := immOf_immS m m0 (by omega)
    simp only [List.map_cons, List.map_nil, o84, o83, o110]
    rw [loopB, rw_84 _ t t0 t1]
    simp only [if_pos]
    rw [if_neg (by decide)]
    rw [loopB, rw_83 _ s s0 s1]
    simp only [if_pos]
    rw [if_neg (by decide)]
    rw [loopB, rw_110 _ (immS m) hi1 hi2]
    simp only [if_pos]
    rw [if_neg (by decide)]
    rw [loopB, if_pos rfl]
    simp only [hi0]
  · rw [ef] at wm s2 t2 d2
    rw [eo]
    have hm : m ≤ 65535 := wm
    have hd : d = 0 := d2 rfl
    subst hd
    simp only [List.map_cons, List.map_nil, o84, o83, o117]
    rw [loopB, rw_84 _ t t0 t1]
    simp only [if_pos]
    rw [if_neg (by decide)]
    rw [loopB, rw_83 _ s s0 s1]
    simp only [if_pos]
    rw [if_neg (by decide)]
    rw [loopB, rw_117 _ m m0 hm]
    simp only [if_pos]
    rw [if_neg (by decide)]
    rw [loopB, if_pos rfl]
  · rw [ef] at wm s2 t2 d2
    rw [eo]
    have hm : m ≤ 65535 := wm
    have hs : s = 0 := s2 rfl
    subst hs
    have hd : d = 0 := d2 rfl
    subst hd
    simp only [List.map_cons, List.map_nil, o84, o117]
    rw [loopB, rw_84 _ t t0 t1]
    simp only [if_pos]
    rw [if_neg (by decide)]
    rw [loopB, rw_117 _ m m0 hm]
    simp only [if_pos]
    rw [if_neg (by decide)]
    rw [loopB, if_pos rfl]
  · rw [ef] at wm s2 t2 d2
    rw [eo]
    have hm : m ≤ 0 := wm
    have hs : s = 0 := s2 rfl
    subst hs
    have hmz : m = 0 := by omega
    subst hmz
    simp only [List.map_cons, List.map_nil, o84, o68]
    rw [loopB, rw_84 _ t t0 t1]
    simp only [if_pos]
    rw [if_neg (by decide)]
    rw [loopB, rw_68 _ d d0 d1]
    simp only [if_pos]
    rw [if_neg (by decide)]
    rw [loopB, if_pos rfl]
  · rw [ef] at wm s2 t2 d2
    rw [eo]
    have hm : m ≤ 65535 := wm
    have hd : d = 0 := d2 rfl
    subst hd
    obtain ⟨hi0, hi1, hi2⟩ := immOf_immS m m0 (by omega)
    simp only [List.map_cons, List.map_nil, o84, o109]
    rw [loopB, rw_84 _ t t0 t1]
    simp only [if_pos]
    rw [if_neg (by decide)]
    rw [loopB, rw_109 _ (immS m) s hi1 hi2 s0 s1]
    simp only [if_pos]
    rw [if_neg (by decide)]
    rw [loopB, if_pos rfl]
    simp only [hi0]
/-- Operands that are read are their instruction's. -/
theorem loop_read (k : Nat) (h1 : 1 ≤ k) (hk : k < 54) (L : List (List UInt8)) (x : InsN) (hl : L.length = (orderB k).length) (h : loopB (orderB k) L ⟨(k : Int), 0, 0, 0, 0⟩ 0 = (x, 0)) :
    x.op = (k : Int) ∧ (orderB k).map (opdB x) = L ∧ encBad x = false ∧ x.Fits := by
  rcases orders k hk h1 with ⟨eo, ef⟩ | ⟨eo, ef⟩ | ⟨eo, ef⟩ | ⟨eo, ef⟩ | ⟨eo, ef⟩ | ⟨eo, ef⟩ | ⟨eo, ef⟩ | ⟨eo, ef⟩ | ⟨eo, ef⟩ | ⟨eo, ef⟩ | ⟨eo, ef⟩ | ⟨eo, ef⟩ | ⟨eo, ef⟩ | ⟨eo, ef⟩ | ⟨eo, ef⟩ | ⟨eo, ef⟩
  · rw [eo] at h hl ⊢
    obtain rfl : L = [] := List.eq_nil_of_length_eq_zero hl
    have hx := loop_nil h
    subst hx
    clear h hl
    refine ⟨rfl, ?_, ?_, ⟨by simp only; omega, by simp only; omega, by simp only; omega, by simp only; omega, by simp only; omega, by simp only; omega, by simp only; omega, by simp only; omega, by simp only; omega, by simp only; omega⟩⟩
    · simp
    · rw [encBad_eq _ k rfl (by simp only; omega), ef]
      have w1 : wellB (0) (([] : List UInt8).contains 83) = true := well_zero _
      have w2 : wellB (0) (([] : List UInt8).contains 84) = true := well_zero _
      have w3 : wellB (0) (([] : List UInt8).contains 68) = true := well_zero _
      have w4 : decide ((0 : Int) ≤ mostZ []) = true := decide_eq_true (by show _ ≤ (0 : Int); omega)
      rw [w1, w2, w3, w4]
      rfl
  · rw [eo] at h hl ⊢
    obtain ⟨p0, rfl⟩ : ∃ p0, L = [p0] := by
      match L, hl with
      | [p0], _ => exact ⟨_, rfl⟩
    obtain ⟨g0, h⟩ := loop_zero h
    obtain ⟨n0, e0, a0, b0, u0⟩ := rz_83 g0
    rw [u0] at h
    clear g0 u0
    have hx := loop_nil h
    subst hx
    clear h hl
    subst e0
    refine ⟨rfl, ?_, ?_, ⟨by simp only; omega, by simp only; omega, by simp only; omega, by simp only; omega, by simp only; omega, by simp only; omega, by simp only; omega, by simp only; omega, by simp only; omega, by simp only; omega⟩⟩
    · simp [opdB]
    · rw [encBad_eq _ k rfl (by simp only; omega), ef]
      have w1 : wellB (n0) (([83] : List UInt8).contains 83) = true := well_in n0 (by omega) (by omega)
      have w2 : wellB (0) (([83] : List UInt8).contains 84) = true := well_zero _
      have w3 : wellB (0) (([83] : List UInt8).contains 68) = true := well_zero _
      have w4 : decide ((0 : Int) ≤ mostZ [83]) = true := decide_eq_true (by show _ ≤ (0 : Int); omega)
      rw [w1, w2, w3, w4]
      rfl
  · rw [eo] at h hl ⊢
    obtain ⟨p0, rfl⟩ : ∃ p0, L = [p0] := by
      match L, hl with
      | [p0], _ => exact ⟨_, rfl⟩
    obtain ⟨g0, h⟩ := loop_zero h
    obtain ⟨n0, e0, a0, b0, u0⟩ := rz_68 g0
    rw [u0] at h
    clear g0 u0
    have hx := loop_nil h
    subst hx
    clear h hl
    subst e0
    refine ⟨rfl, ?_, ?_, ⟨by simp only; omega, by simp only; omega, by simp only; omega, by simp only; omega, by simp only; omega, by simp only; omega, by simp only; omega, by simp only; omega, by simp only; omega, by simp only; omega⟩⟩
    · simp [opdB]
    · rw [encBad_eq _ k rfl (by simp only; omega), ef]
      have w1 : wellB (0) (([68] : List UInt8).contains 83) = true := well_zero _
      have w2 : wellB (0) (([68] : List UInt8).contains 84) = true := well_zero _
      have w3 : wellB (n0) (([68] : List UInt8).contains 68) = true := well_in n0 (by omega) (by omega)
      have w4 : decide ((0 : Int) ≤ mostZ [68]) = true := decide_eq_true (by show _ ≤ (0 : Int); omega)
      rw [w1, w2, w3, w4]
      rfl
  · rw [eo] at h hl ⊢
    obtain ⟨p0, p1, rfl⟩ : ∃ p0 p1, L = [p0, p1] := by
      match L, hl with
      | [p0, p1], _ => exact ⟨_, _, rfl⟩
    obtain ⟨g0, h⟩ := loop_zero h
    obtain ⟨n0, e0, a0, b0, u0⟩ := rz_68 g0
    rw [u0] at h
    clear g0 u0
    obtain ⟨g1, h⟩ := loop_zero h
    obtain ⟨n1, e1, a1, b1, u1⟩ := rz_83 g1
    rw [u1] at h
    clear g1 u1
    have hx := loop_nil h
    subst hx
    clear h hl
    subst e0
    subst e1
    refine ⟨rfl, ?_, ?_, ⟨by simp only; omega, by simp only; omega, by simp only; omega, by simp only; omega, by simp only; omega, by simp only; omega, by simp only; omega, by simp only; omega, by simp only; omega, by simp only; omega⟩⟩
    · simp [opdB]
    · rw [encBad_eq _ k rfl (by simp only; omega), ef]
      have w1 : wellB (n1) (([83, 68] : List UInt8).contains 83) = true := well_in n1 (by omega) (by omega)
      have w2 : wellB (0) (([83, 68] : List UInt8).contains 84) = true := well_zero _
      have w3 : wellB (n0) (([83, 68] : List UInt8).contains 68) = true := well_in n0 (by omega) (by omega)
      have w4 : decide ((0 : Int) ≤ mostZ [83, 68]) = true := decide_eq_true (by show _ ≤ (0 : Int); omega)
      rw [w1, w2, w3, w4]
      rfl
  · rw [eo] at h hl ⊢
    obtain ⟨p0, p1, rfl⟩ : ∃ p0 p1, L = [p0, p1] := by
      match L, hl with
      | [p0, p1], _ => exact ⟨_, _, rfl⟩
    obtain ⟨g0, h⟩ := loop_zero h
    obtain ⟨n0, e0, a0, b0, u0⟩ := rz_83 g0
    rw [u0] at h
    clear g0 u0
    obtain ⟨g1, h⟩ := loop_zero h
    obtain ⟨n1, e1, a1, b1, u1⟩ := rz_84 g1
    rw [u1] at h
    clear g1 u1
    have hx := loop_nil h
    subst hx
    clear h hl
    subst e0
    subst e1
    refine ⟨rfl, ?_, ?_, ⟨by simp only; omega, by simp only; omega, by simp only; omega, by simp only; omega, by simp only; omega, by simp only; omega, by simp only; omega, by simp only; omega, by simp only; omega, by simp only; omega⟩⟩
    · simp [opdB]
    · rw [encBad_eq _ k rfl (by simp only; omega), ef]
      have w1 : wellB (n0) (([83, 84] : List UInt8).contains 83) = true := well_in n0 (by omega) (by omega)
      have w2 : wellB (n1) (([83, 84] : List UInt8).contains 84) = true := well_in n1 (by omega) (by omega)
      have w3 : wellB (0) (([83, 84] : List UInt8).contains 68) = true := well_zero _
      have w4 : decide ((0 : Int) ≤ mostZ [83, 84]) = true := decide_eq_true (by show _ ≤ (0 : Int); omega)
      rw [w1, w2, w3, w4]
      rfl
  · rw [eo] at h hl ⊢
    obtain ⟨p0, p1, p2, rfl⟩ : ∃ p0 p1 p2, L = [p0, p1, p2] := by
      match L, hl with
      | [p0, p1, p2], _ => exact ⟨_, _, _, rfl⟩
    obtain ⟨g0, h⟩ := loop_zero h
    obtain ⟨n0, e0, a0, b0, u0⟩ := rz_68 g0
    rw [u0] at h
    clear g0 u0
    obtain ⟨g1, h⟩ := loop_zero h
    obtain ⟨n1, e1, a1, b1, u1⟩ := rz_84 g1
    rw [u1] at h
    clear g1 u1
    obtain ⟨g2, h⟩ := loop_zero h
    obtain ⟨n2, e2, a2, b2, u2⟩ := rz_97 g2
    rw [u2] at h
    clear g2 u2
    have hx := loop_nil h
    subst hx
    clear h hl
    subst e0
    subst e1
    subst e2
    refine ⟨rfl, ?_, ?_, ⟨by simp only; omega, by simp only; omega, by simp only; omega, by simp only; omega, by simp only; omega, by simp only; omega, by simp only; omega, by simp only; omega, by simp only; omega, by simp only; omega⟩⟩
    · simp [opdB]
    · rw [encBad_eq _ k rfl (by simp only; omega), ef]
      have w1 : wellB (0) (([84, 68, 97] : List UInt8).contains 83) = true := well_zero _
      have w2 : wellB (n1) (([84, 68, 97] : List UInt8).contains 84) = true := well_in n1 (by omega) (by omega)
      have w3 : wellB (n0) (([84, 68, 97] : List UInt8).contains 68) = true := well_in n0 (by omega) (by omega)
      have w4 : decide ((n2 : Int) ≤ mostZ [84, 68, 97]) = true := decide_eq_true (by show _ ≤ (31 : Int); omega)
      rw [w1, w2, w3, w4]
      rfl
  · rw [eo] at h hl ⊢
    obtain ⟨p0, p1, p2, rfl⟩ : ∃ p0 p1 p2, L = [p0, p1, p2] := by
      match L, hl with
      | [p0, p1, p2], _ => exact ⟨_, _, _, rfl⟩
    obtain ⟨g0, h⟩ := loop_zero h
    obtain ⟨n0, e0, a0, b0, u0⟩ := rz_68 g0
    rw [u0] at h
    clear g0 u0
    obtain ⟨g1, h⟩ := loop_zero h
    obtain ⟨n1, e1, a1, b1, u1⟩ := rz_84 g1
    rw [u1] at h
    clear g1 u1
    obtain ⟨g2, h⟩ := loop_zero h
    obtain ⟨n2, e2, a2, b2, u2⟩ := rz_83 g2
    rw [u2] at h
    clear g2 u2
    have hx := loop_nil h
    subst hx
    clear h hl
    subst e0
    subst e1
    subst e2
    refine ⟨rfl, ?_, ?_, ⟨by simp only; omega, by simp only; omega, by simp only; omega, by simp only; omega, by simp only; omega, by simp only; omega, by simp only; omega, by simp only; omega, by simp only; omega, by simp only; omega⟩⟩
    · simp [opdB]
    · rw [encBad_eq _ k rfl (by simp only; omega), ef]
      have w1 : wellB (n2) (([83, 84, 68] : List UInt8).contains 83) = true := well_in n2 (by omega) (by omega)
      have w2 : wellB (n1) (([83, 84, 68] : List UInt8).contains 84) = true := well_in n1 (by omega) (by omega)
      have w3 : wellB (n0) (([83, 84, 68] : List UInt8).contains 68) = true := well_in n0 (by omega) (by omega)
      have w4 : decide ((0 : Int) ≤ mostZ [83, 84, 68]) = true := decide_eq_true (by show _ ≤ (0 : Int); omega)
      rw [w1, w2, w3, w4]
      rfl
  · rw [eo] at h hl ⊢
    obtain ⟨p0, p1, p2, rfl⟩ : ∃ p0 p1 p2, L = [p0, p1, p2] := by
      match L, hl with
      | [p0, p1, p2], _ => exact ⟨_, _, _, rfl⟩
    obtain ⟨g0, h⟩ := loop_zero h
    obtain ⟨n0, e0, a0, b0, u0⟩ := rz_68 g0
    rw [u0] at h
    clear g0 u0
    obtain ⟨g1, h⟩ := loop_zero h
    obtain ⟨n1, e1, a1, b1, u1⟩ := rz_83 g1
    rw [u1] at h
    clear g1 u1
    obtain ⟨g2, h⟩ := loop_zero h
    obtain ⟨n2, e2, a2, b2, u2⟩ := rz_84 g2
    rw [u2] at h
    clear g2 u2
    have hx := loop_nil h
    subst hx
    clear h hl
    subst e0
    subst e1
    subst e2
    refine ⟨rfl, ?_, ?_, ⟨by simp only; omega, by simp only; omega, by simp only; omega, by simp only; omega, by simp only; omega, by simp only; omega, by simp only; omega, by simp only; omega, by simp only; omega, by simp only; omega⟩⟩
    · simp [opdB]
    · rw [encBad_eq _ k rfl (by simp only; omega), ef]
      have w1 : wellB (n1) (([83, 84, 68] : List UInt8).contains 83) = true := well_in n1 (by omega) (by omega)
      have w2 : wellB (n2) (([83, 84, 68] : List UInt8).contains 84) = true := well_in n2 (by omega) (by omega)
      have w3 : wellB (n0) (([83, 84, 68] : List UInt8).contains 68) = true := well_in n0 (by omega) (by omega)
      have w4 : decide ((0 : Int) ≤ mostZ [83, 84, 68]) = true := decide_eq_true (by show _ ≤ (0 : Int); omega)
      rw [w1, w2, w3, w4]
      rfl
  · rw [eo] at h hl ⊢
    obtain ⟨p0, rfl⟩ : ∃ p0, L = [p0] := by
      match L, hl with
      | [p0], _ => exact ⟨_, rfl⟩
    obtain ⟨g0, h⟩ := loop_zero h
    obtain ⟨n0, e0, a0, b0, u0⟩ := rz_106 g0
    rw [u0] at h
    clear g0 u0
    have hx := loop_nil h
    subst hx
    clear h hl
    subst e0
    refine ⟨rfl, ?_, ?_, ⟨by simp only; omega, by simp only; omega, by simp only; omega, by simp only; omega, by simp only; omega, by simp only; omega, by simp only; omega, by simp only; omega, by simp only; omega, by simp only; omega⟩⟩
    · simp [opdB]
    · rw [encBad_eq _ k rfl (by simp only; omega), ef]
      have w1 : wellB (0) (([106] : List UInt8).contains 83) = true := well_zero _
      have w2 : wellB (0) (([106] : List UInt8).contains 84) = true := well_zero _
      have w3 : wellB (0) (([106] : List UInt8).contains 68) = true := well_zero _
      have w4 : decide ((n0 : Int) ≤ mostZ [106]) = true := decide_eq_true (by show _ ≤ (67108863 : Int); omega)
      rw [w1, w2, w3, w4]
      rfl
  · rw [eo] at h hl ⊢
    obtain ⟨p0, p1, p2, rfl⟩ : ∃ p0 p1 p2, L = [p0, p1, p2] := by
      match L, hl with
      | [p0, p1, p2], _ => exact ⟨_, _, _, rfl⟩
    obtain ⟨g0, h⟩ := loop_zero h
    obtain ⟨n0, e0, a0, b0, u0⟩ := rz_83 g0
    rw [u0] at h
    clear g0 u0
    obtain ⟨g1, h⟩ := loop_zero h
    obtain ⟨n1, e1, a1, b1, u1⟩ := rz_84 g1
    rw [u1] at h
    clear g1 u1
    obtain ⟨g2, h⟩ := loop_zero h
    obtain ⟨n2, e2, a2, b2, u2⟩ := rz_110 g2
    rw [u2] at h
    clear g2 u2
    have hx := loop_nil h
    subst hx
    clear h hl
    subst e0
    subst e1
    subst e2
    refine ⟨rfl, ?_, ?_, ⟨by simp only; omega, by simp only; omega, by simp only; omega, by simp only; omega, by simp only; omega, by simp only; omega, by simp only; omega, by simp only; omega, by simp only; omega, by simp only; omega⟩⟩
    · have hi := immS_of n2 (by omega) (by omega)
      simp only [List.map_cons, List.map_nil, opdB]
      simp [hi]
    · rw [encBad_eq _ k rfl (by simp only; omega), ef]
      have w1 : wellB (n0) (([83, 84, 105] : List UInt8).contains 83) = true := well_in n0 (by omega) (by omega)
      have w2 : wellB (n1) (([83, 84, 105] : List UInt8).contains 84) = true := well_in n1 (by omega) (by omega)
      have w3 : wellB (0) (([83, 84, 105] : List UInt8).contains 68) = true := well_zero _
      have w4 : decide ((n2 % 65536 : Int) ≤ mostZ [83, 84, 105]) = true := decide_eq_true (by show _ ≤ (65535 : Int); omega)
      rw [w1, w2, w3, w4]
      rfl
  · rw [eo] at h hl ⊢
    obtain ⟨p0, p1, rfl⟩ : ∃ p0 p1, L = [p0, p1] := by
      match L, hl with
      | [p0, p1], _ => exact ⟨_, _, rfl⟩
    obtain ⟨g0, h⟩ := loop_zero h
    obtain ⟨n0, e0, a0, b0, u0⟩ := rz_83 g0
    rw [u0] at h
    clear g0 u0
    obtain ⟨g1, h⟩ := loop_zero h
    obtain ⟨n1, e1, a1, b1, u1⟩ := rz_110 g1
    rw [u1] at h
    clear g1 u1
    have hx := loop_nil h
    subst hx
    clear h hl
    subst e0
    subst e1
    refine ⟨rfl, ?_, ?_, ⟨by simp only; omega, by simp only; omega, by simp only; omega, by simp only; omega, by simp only; omega, by simp only; omega, by simp only; omega, by simp only; omega, by simp only; omega, by simp only; omega⟩⟩
    · have hi := immS_of n1 (by omega) (by omega)
      simp only [List.map_cons, List.map_nil, opdB]
      simp [hi]
    · rw [encBad_eq _ k rfl (by simp only; omega), ef]
      have w1 : wellB (n0) (([83, 105] : List UInt8).contains 83) = true := well_in n0 (by omega) (by omega)
      have w2 : wellB (0) (([83, 105] : List UInt8).contains 84) = true := well_zero _
      have w3 : wellB (0) (([83, 105] : List UInt8).contains 68) = true := well_zero _
      have w4 : decide ((n1 % 65536 : Int) ≤ mostZ [83, 105]) = true := decide_eq_true (by show _ ≤ (65535 : Int); omega)
      rw [w1, w2, w3, w4]
      rfl
  · rw [eo] at h hl ⊢
    obtain ⟨p0, p1, p2, rfl⟩ : ∃ p0 p1 p2, L = [p0, p1, p2] := by
      match L, hl with
      | [p0, p1, p2], _ => exact ⟨_, _, _, rfl⟩
    obtain ⟨g0, h⟩ := loop_zero h
    obtain ⟨n0, e0, a0, b0, u0⟩ := rz_84 g0
    rw [u0] at h
    clear g0 u0
    obtain ⟨g1, h⟩ := loop_zero h
    obtain ⟨n1, e1, a1, b1, u1⟩ := rz_83 g1
    rw [u1] at h
    clear g1 u1
    obtain ⟨g2, h⟩ := loop_zero h
    obtain ⟨n2, e2, a2, b2, u2⟩ := rz_110 g2
    rw [u2] at h
    clear g2 u2
    have hx := loop_nil h
    subst hx
    clear h hl
    subst e0
    subst e1
    subst e2
    refine ⟨rfl, ?_, ?_, ⟨by simp only; omega, by simp only; omega, by simp only; omega, by simp only; omega, by simp only; omega, by simp only; omega, by simp only; omega, by simp only; omega, by simp only; omega, by simp only; omega⟩⟩
    · have hi := immS_of n2 (by omega) (by omega)
      simp only [List.map_cons, List.map_nil, opdB]
      simp [hi]
    · rw [encBad_eq _ k rfl (by simp only; omega), ef]
      have w1 : wellB (n1) (([83, 84, 105] : List UInt8).contains 83) = true := well_in n1 (by omega) (by omega)
      have w2 : wellB (n0) (([83, 84, 105] : List UInt8).contains 84) = true := well_in n0 (by omega) (by omega)
      have w3 : wellB (0) (([83, 84, 105] : List UInt8).contains 68) = true := well_zero _
      have w4 : decide ((n2 % 65536 : Int) ≤ mostZ [83, 84, 105]) = true := decide_eq_true (by show _ ≤ (65535 : Int); omega)
      rw [w1, w2, w3, w4]
      rfl
  · rw [eo] at h hl ⊢
    obtain ⟨p0, p1, p2, rfl⟩ : ∃ p0 p1 p2, L = [p0, p1, p2] := by
      match L, hl with
      | [p0, p1, p2], _ => exact ⟨_, _, _, rfl⟩
    obtain ⟨g0, h⟩ := loop_zero h
    obtain ⟨n0, e0, a0, b0, u0⟩ := rz_84 g0
    rw [u0] at h
    clear g0 u0
    obtain ⟨g1, h⟩ := loop_zero h
    obtain ⟨n1, e1, a1, b1, u1⟩ := rz_83 g1
    rw [u1] at h
    clear g1 u1
    obtain ⟨g2, h⟩ := loop_zero h
    obtain ⟨n2, e2, a2, b2, u2⟩ := rz_117 g2
    rw [u2] at h
    clear g2 u2
    have hx := loop_nil h
    subst hx
    clear h hl
    subst e0
    subst e1
    subst e2
    refine ⟨rfl, ?_, ?_, ⟨by simp only; omega, by simp only; omega, by simp only; omega, by simp only; omega, by simp only; omega, by simp only; omega, by simp only; omega, by simp only; omega, by simp only; omega, by simp only; omega⟩⟩
    · simp [opdB]
    · rw [encBad_eq _ k rfl (by simp only; omega), ef]
      have w1 : wellB (n1) (([83, 84, 105] : List UInt8).contains 83) = true := well_in n1 (by omega) (by omega)
      have w2 : wellB (n0) (([83, 84, 105] : List UInt8).contains 84) = true := well_in n0 (by omega) (by omega)
      have w3 : wellB (0) (([83, 84, 105] : List UInt8).contains 68) = true := well_zero _
      have w4 : decide ((n2 : Int) ≤ mostZ [83, 84, 105]) = true := decide_eq_true (by show _ ≤ (65535 : Int); omega)
      rw [w1, w2, w3, w4]
      rfl
  · rw [eo] at h hl ⊢
    obtain ⟨p0, p1, rfl⟩ : ∃ p0 p1, L = [p0, p1] := by
      match L, hl with
      | [p0, p1], _ => exact ⟨_, _, rfl⟩
    obtain ⟨g0, h⟩ := loop_zero h
    obtain ⟨n0, e0, a0, b0, u0⟩ := rz_84 g0
    rw [u0] at h
    clear g0 u0
    obtain ⟨g1, h⟩ := loop_zero h
    obtain ⟨n1, e1, a1, b1, u1⟩ := rz_117 g1
    rw [u1] at h
    clear g1 u1
    have hx := loop_nil h
    subst hx
    clear h hl
    subst e0
    subst e1
    refine ⟨rfl, ?_, ?_, ⟨by simp only; omega, by simp only; omega, by simp only; omega, by simp only; omega, by simp only; omega, by simp only; omega, by simp only; omega, by simp only; omega, by simp only; omega, by simp only; omega⟩⟩
    · simp [opdB]
    · rw [encBad_eq _ k rfl (by simp only; omega), ef]
      have w1 : wellB (0) (([84, 105] : List UInt8).contains 83) = true := well_zero _
      have w2 : wellB (n0) (([84, 105] : List UInt8).contains 84) = true := well_in n0 (by omega) (by omega)
      have w3 : wellB (0) (([84, 105] : List UInt8).contains 68) = true := well_zero _
      have w4 : decide ((n1 : Int) ≤ mostZ [84, 105]) = true := decide_eq_true (by show _ ≤ (65535 : Int); omega)
      rw [w1, w2, w3, w4]
      rfl
  · rw [eo] at h hl ⊢
    obtain ⟨p0, p1, rfl⟩ : ∃ p0 p1, L = [p0, p1] := by
      match L, hl with
      | [p0, p1], _ => exact ⟨_, _, rfl⟩
    obtain ⟨g0, h⟩ := loop_zero h
    obtain ⟨n0, e0, a0, b0, u0⟩ := rz_84 g0
    rw [u0] at h
    clear g0 u0
    obtain ⟨g1, h⟩ := loop_zero h
    obtain ⟨n1, e1, a1, b1, u1⟩ := rz_68 g1
    rw [u1] at h
    clear g1 u1
    have hx := loop_nil h
    subst hx
    clear h hl
    subst e0
    subst e1
    refine ⟨rfl, ?_, ?_, ⟨by simp only; omega, by simp only; omega, by simp only; omega, by simp only; omega, by simp only; omega, by simp only; omega, by simp only; omega, by simp only; omega, by simp only; omega, by simp only; omega⟩⟩
    · simp [opdB]
    · rw [encBad_eq _ k rfl (by simp only; omega), ef]
      have w1 : wellB (0) (([84, 68] : List UInt8).contains 83) = true := well_zero _
      have w2 : wellB (n0) (([84, 68] : List UInt8).contains 84) = true := well_in n0 (by omega) (by omega)
      have w3 : wellB (n1) (([84, 68] : List UInt8).contains 68) = true := well_in n1 (by omega) (by omega)
      have w4 : decide ((0 : Int) ≤ mostZ [84, 68]) = true := decide_eq_true (by show _ ≤ (0 : Int); omega)
      rw [w1, w2, w3, w4]
      rfl
  · rw [eo] at h hl ⊢
    obtain ⟨p0, p1, rfl⟩ : ∃ p0 p1, L = [p0, p1] := by
      match L, hl with
      | [p0, p1], _ => exact ⟨_, _, rfl⟩
    obtain ⟨g0, h⟩ := loop_zero h
    obtain ⟨n0, e0, a0, b0, u0⟩ := rz_84 g0
    rw [u0] at h
    clear g0 u0
    obtain ⟨g1, h⟩ := loop_zero h
    obtain ⟨n1, kk, e1, a1, b1, ka, kb, u1⟩ := rz_109 g1
    rw [u1] at h
    clear g1 u1
    have hx := loop_nil h
    subst hx
    clear h hl
    subst e0
    subst e1
    refine ⟨rfl, ?_, ?_, ⟨by simp only; omega, by simp only; omega, by simp only; omega, by simp only; omega, by simp only; omega, by simp only; omega, by simp only; omega, by simp only; omega, by simp only; omega, by simp only; omega⟩⟩
    · have hi := immS_of n1 (by omega) (by omega)
      simp only [List.map_cons, List.map_nil, opdB]
      simp [hi]
    · rw [encBad_eq _ k rfl (by simp only; omega), ef]
      have w1 : wellB (kk) (([83, 84, 105] : List UInt8).contains 83) = true := well_in kk (by omega) (by omega)
      have w2 : wellB (n0) (([83, 84, 105] : List UInt8).contains 84) = true := well_in n0 (by omega) (by omega)
      have w3 : wellB (0) (([83, 84, 105] : List UInt8).contains 68) = true := well_zero _
      have w4 : decide ((n1 % 65536 : Int) ≤ mostZ [83, 84, 105]) = true := decide_eq_true (by show _ ≤ (65535 : Int); omega)
      rw [w1, w2, w3, w4]
      rfl
/-- An instruction's text is read as it. -/
theorem parse_text (i : InsN) (hi : i.Fits) (h : goodI i) : parseB (textB i) = (i, 0) := by
  obtain ⟨k, hk⟩ := Int.eq_ofNat_of_zero_le (a := i.op) (by have := h.1; omega)
  have k1 : 1 ≤ k := by have := h.1; omega
  have k2 : k < 54 := by have := h.1; omega
  have hkn : i.op.toNat = k := by omega
  have hlt := loop_text i k k1 k2 hk hi.m0 h.2
  have hnf := names_free k k2
  have hnn := nameN_hit (nameB k) k k1 k2 rfl
  have hc : (cutC 32 (textB i)).1 = nameB k ∧ piecesB (textB i) = (orderB k).map (opdB i) := by
    unfold piecesB textB tailB
    rw [hkn]
    by_cases ho : orderB k = []
    · rw [if_pos ho, List.append_nil, cutC_none 32 _ hnf, ho]
      exact ⟨rfl, rfl⟩
    · rw [if_neg ho, cutC_free 32 _ _ hnf]
      refine ⟨rfl, ?_⟩
      simp only [if_true]
      cases hoo : orderB k with
      | nil => exact absurd hoo ho
      | cons c o =>
        rw [List.map_cons, Lib.join_cons]
        exact split2_join _ _ (opd_free i c) fun y hy => by
          obtain ⟨c2, _, rfl⟩ := List.mem_map.1 hy
          exact opd_free i c2
  unfold parseB
  rw [hc.1, hc.2, hnn, if_neg (by omega), if_neg (by simp), hlt]
/-- A text that is read is its instruction's. -/
theorem text_parse (s : List UInt8) (x : InsN) (h : parseB s = (x, 0)) : goodI x ∧ x.Fits ∧ textB x = s := by
  unfold parseB at h
  by_cases h0 : nameN (cutC 32 s).1 = 0
  · rw [if_pos h0] at h; simp at h
  · rw [if_neg h0] at h
    by_cases hl : (piecesB s).length ≠ (orderB (nameN (cutC 32 s).1)).length
    · rw [if_pos hl] at h; simp at h
    · rw [if_neg hl] at h
      have hlt := nameN_lt (cutC 32 s).1
      have hnm : nameB (nameN (cutC 32 s).1) = (cutC 32 s).1 := by
        by_cases hh : ∃ k, 1 ≤ k ∧ k < 54 ∧ nameB k = (cutC 32 s).1
        · obtain ⟨k, a, b, c⟩ := hh
          rw [nameN_hit _ k a b c, c]
        · exact absurd (nameN_none _ fun k a b c => hh ⟨k, a, b, c⟩) h0
      generalize nameN (cutC 32 s).1 = k at *
      obtain ⟨r1, r2, r3, r4⟩ := loop_read k (by omega) hlt (piecesB s) x (by omega) h
      refine ⟨⟨by omega, r3⟩, r4, ?_⟩
      have hkn : x.op.toNat = k := by omega
      unfold textB tailB
      rw [hkn, r2, hnm]
      unfold piecesB at r2 hl ⊢
      by_cases hc : (cutC 32 s).2.2 = true
      · rw [if_pos hc] at r2 hl ⊢
        have hne : orderB k ≠ [] := by
          intro e
          rw [e] at r2
          exact split2_ne _ r2.symm
        rw [if_neg hne, join_split2 _ _ (Nat.le_refl _)]
        exact (cutC_true 32 s hc).symm
      · rw [if_neg hc] at r2 hl ⊢
        have he : orderB k = [] := by simpa using r2
        rw [if_pos he, List.append_nil]
        have hcf : (cutC 32 s).2.2 = false := by simpa using hc
        obtain ⟨q1, q2, q3⟩ := cut_name s
        rw [hcf] at q2
        simp only [Bool.false_eq_true, if_false] at q2
        rw [q1]
        have hp : nameOf s ++ s.drop (nameOf s).length = s := by
          have : nameOf s = s.take (nameOf s).length := by
            have hpre : nameOf s <+: s := List.takeWhile_prefix _
            exact List.prefix_iff_eq_take.1 hpre
          conv => lhs; lhs; rw [this]
          rw [List.take_append_drop]
        rw [q2, List.append_nil] at hp
        exact hp
end Go.Proofs.YtnppegldebocmaaGreatDoor
namespace Go.Proofs.YtnppegldebocmaaGreatDoor
open Go.RowKit
theorem nDig_le : ∀ (k u : Nat), 1 ≤ k → u < 10 ^ k → Lib.nDigits u ≤ k
  | 0, _, h, _ => absurd h (by decide)
  | k + 1, u, _, h => by
    by_cases h1 : u < 10
    · rw [Lib.nDigits_small h1]; omega
    · rw [Lib.nDigits_big h1]
      have hk : 1 ≤ k := by
        cases k with
        | zero => exact absurd (by simpa using h) h1
        | succ k => omega
      have := nDig_le k (u / 10) hk (by rw [Nat.pow_succ] at h; omega)
      omega
theorem itoa_short (k : Nat) (hk : 1 ≤ k) (n : Int) (h0 : 0 ≤ n) (h1 : n < ((10 ^ k : Nat) : Int)) : (Lib.itoa n).length ≤ k := by
  obtain ⟨u, rfl⟩ := Int.eq_ofNat_of_zero_le h0
  rw [Lib.itoa_nonneg, Lib.decDigits_length]
  exact nDig_le k u hk (by omega)
theorem itoa_short2 (k : Nat) (hk : 1 ≤ k) (n : Int) (h0 : -((10 ^ k : Nat) : Int) < n) (h1 : n < ((10 ^ k : Nat) : Int)) : (Lib.itoa n).length ≤ k + 1 := by
  by_cases hneg : n < 0
  · obtain ⟨u, rfl⟩ : ∃ u : Nat, n = -(u : Int) := ⟨n.natAbs, by omega⟩
    rw [Lib.itoa_neg u (by omega), List.length_cons, Lib.decDigits_length]
    have := nDig_le k u hk (by omega)
    omega
  · have := itoa_short k hk n (by omega) h1
    omega
theorem opd_short (i : InsN) (hi : i.Fits) (h : goodI i) (c : UInt8) : (opdB i c).length ≤ 20 := by
  obtain ⟨k, hop⟩ := Int.eq_ofNat_of_zero_le (a := i.op) (by have := h.1; omega)
  obtain ⟨ws, wt, wd, wm⟩ := good_wells i k hop hi.m0 h.2
  have hs := well_of ws
  have ht := well_of wt
  have hd := well_of wd
  have hmm : i.imm ≤ 67108863 := by
    have : mostZ (fieldsB k) ≤ 67108863 := by unfold mostZ; split; exact Int.le_refl _; split; decide; split <;> decide
    omega
  have m0 := hi.m0
  have a := itoa_short 2 (by decide) i.s hs.1 (by have := hs.2.1; omega)
  have b := itoa_short 2 (by decide) i.t ht.1 (by have := ht.2.1; omega)
  have d := itoa_short 2 (by decide) i.d hd.1 (by have := hd.2.1; omega)
  have e := itoa_short 8 (by decide) i.imm m0 (by omega)
  have f := itoa_short2 8 (by decide) (immS i.imm) (by unfold immS; split <;> omega) (by unfold immS; split <;> omega)
  unfold opdB
  repeat' split
  all_goals simp
  all_goals omega
theorem join_short (xs : List (List UInt8)) (h : xs.length ≤ 3) (h2 : ∀ y ∈ xs, y.length ≤ 20) : (Lib.join xs [44, 32]).length ≤ 70 := by
  match xs, h with
  | [], _ => simp [Lib.join_nil]
  | [a], _ =>
    have := h2 a (by simp)
    rw [Lib.join_one]; omega
  | [a, b], _ =>
    have h3 := h2 a (by simp); have h4 := h2 b (by simp)
    rw [Lib.join_cons]; simp [Lib.joinTail]; omega
  | [a, b, c], _ =>
    have h3 := h2 a (by simp); have h4 := h2 b (by simp); have h5 := h2 c (by simp)
    rw [Lib.join_cons]; simp [Lib.joinTail]; omega
theorem text_short (i : InsN) (hi : i.Fits) (h : goodI i) : (textB i).length ≤ 100 := by
  obtain ⟨ol, _, nl, _⟩ := order_facts i.op.toNat (by have := h.1; omega)
  have hj := join_short ((orderB i.op.toNat).map (opdB i)) (by rw [List.length_map]; exact ol) (fun y hy => by
    obtain ⟨c, _, rfl⟩ := List.mem_map.1 hy
    exact opd_short i hi h c)
  unfold textB tailB
  rw [List.length_append]
  split
  · simp; omega
  · rw [List.length_cons]; omega
theorem loop_codes : ∀ (o : List UInt8) (L : List (List UInt8)) (i : InsN) (e : Nat), e = 0 ∨ e = 1 ∨ e = 2 → (loopB o L i e).2 = 0 ∨ (loopB o L i e).2 = 1 ∨ (loopB o L i e).2 = 2
  | [], L, i, e, h => by
    simp only [loopB]
    split
    · exact Or.inl rfl
    · exact h
  | c :: o, [], i, e, h => Or.inr (Or.inl rfl)
  | c :: o, p :: ps, i, e, h => by
    simp only [loopB]
    split
    · exact Or.inr (Or.inl rfl)
    · refine loop_codes o ps _ _ ?_
      split
      · exact read_codes' i c p
      · exact h
theorem parse_codes (s : List UInt8) : (parseB s).2 = 0 ∨ (parseB s).2 = 1 ∨ (parseB s).2 = 2 ∨ (parseB s).2 = 5 := by
  unfold parseB
  split
  · exact Or.inr (Or.inr (Or.inr rfl))
  · split
    · exact Or.inr (Or.inl rfl)
    · rcases loop_codes (orderB (nameN (cutC 32 s).1)) (piecesB s) ⟨(nameN (cutC 32 s).1 : Int), 0, 0, 0, 0⟩ 0 (Or.inl rfl) with h | h | h
      · exact Or.inl h
      · exact Or.inr (Or.inl h)
      · exact Or.inr (Or.inr (Or.inl h))
end Go.Proofs.YtnppegldebocmaaGreatDoor
