/- The walk of (*assembler).line at a branch to a label. Conditions: as each theorem states. A line that is well, branches to labels too; lines one behind the other; branches settled one behind the other. Conditions: as each theorem states. The walk of (*assembler).settle. Conditions: as each theorem states. The walk of asm.Assemble over lines that are well, branches to labels too. Conditions: as each theorem states. -/
import Derived.Test.YtnppegldebocmaaGreatDoorAsmM
import Derived.Laws.OwnMore
namespace Go.Proofs.YtnppegldebocmaaGreatDoor
open Go.RowKit Go.Maps
set_option linter.unusedVariables false
theorem Tryz.infoQ : (Tryz.prog.info? 97).map (fun i => (i.zero, i.size, i.bytes)) = some (some (.agg #[.int .i64 0, .int .i64 0, .string ByteArray.empty]), 3, 32) := by kernel_rfl
theorem three_news (w : World) (a b c : Value) (t : TypeId) : ∀ j v, [a, b, c][j]? = some v → (w.alloc (.cells #[a, b, c] t)).cell? ((⟨w.heap.size, 0, none⟩ : Addr).add j) = some v := by
  intro j u hj
  match j, hj with
  | 0, hj => simp at hj; subst hj; simp [Addr.add]
  | 1, hj => simp at hj; subst hj; simp [Addr.add]
  | 2, hj => simp at hj; subst hj; simp [Addr.add]
  | j + 3, hj => simp at hj
theorem waitC_one (q : Int × Int × List UInt8) : ∀ u ∈ waitC q, u.oneCell' = true := by
  intro u hu
  simp only [waitC, List.mem_cons, List.not_mem_nil, or_false] at hu
  rcases hu with rfl | rfl | rfl <;> rfl
theorem rest_wait {B : Nat} {w0 w w4 : World} {ab : Nat} {base : Int} {wv qv' : Value} {ws : List Int} {lm n : Nat} {D : DataW Unit} {qv : Value} {qs : List (Int × Int × List UInt8)} {q : Int × Int × List UInt8} {o : Obj} (h : AsW B w0 w ab base wv ws lm n D qv qs)
    (hown : w4.ownsRow B 97 3 qv' (qs.length + 1) (qs.flatMap waitC ++ waitC q)) (hg : (w.alloc o).grownBy w4 qv.ownBlock) :
    AsW B w0 (w4.setCell ⟨ab, 3, none⟩ qv') ab base wv ws lm n D qv' (qs ++ [q]) ∧ AB w4 ab base wv lm qv := by
  have hgr : w.grownBy w4 qv.ownBlock := (World.grownBy_alloc w _ _).trans hg
  exact ⟨h.wait hown hgr, (hgr.block ab (Array.getElem?_eq_some_iff.1 h.blk).1 (own_ne h.waits h.blk (by decide))).trans h.blk⟩
theorem AsW.drew {B : Nat} {w0 w : World} {ab : Nat} {base : Int} {wv : Value} {ws : List Int} {lm n : Nat} {D : DataW Unit} {qv : Value} {qs : List (Int × Int × List UInt8)} (h : AsW B w0 w ab base wv ws lm n D qv qs) : AsW B w0 w.drew ab base wv ws lm n D qv qs := h.trans (Below.refl _ _).drew
set_option maxHeartbeats 4000000 in
set_option maxRecDepth 1000000 in
theorem line_branch {w0 w : World} {ab : Nat} {base : Int} {wv : Value} {ws : List Int} {lm n : Nat} {D : DataW Unit} {qv : Value} {qs : List (Int × Int × List UInt8)} (h : AsW w0.heap.size w0 w ab base wv ws lm n D qv qs)
    (ad : Nat → Addr) (mz : Int) (hP0 : PW w0 ad mz) (i : Int) (s l y : List UInt8) (x : InsN) (hl : s.length ≤ 100) (hs : Lib.hasSuffix s [58] = false) (hp : Lib.hasPrefix s [46, 119, 111, 114, 100] = false) (hlb : labelledB s = some (l, y)) (hx : parseB l = (x, 0)) (hwl : ws.length < 1000) (hql : qs.length < 1000) :
    Calls Tryz.prog 48 #[.pointer (some ⟨ab, 0, none⟩), .int .i64 i, .string (bsl s)] w fun e w' => e = .returned .nilIface ∧ ∃ wv' qv', AsW w0.heap.size w0 w' ab base wv' (ws ++ [encL x (fieldsB x.op.toNat)]) lm n D qv' (qs ++ [(i, ((ws.length : Int), y))]) := by
  have HS := Lib.hid (suffix_any s hl w)
  rw [hs] at HS
  have HPF := Lib.hid (prefix_any s w)
  rw [hp] at HPF
  have hP : PW w ad mz := hP0.below h.below
  have HLB := Lib.hid (labelled_any s hl ad mz w hP)
  have HLN := Lib.hid hlb
  obtain ⟨ll, _, _⟩ := labelled_len hlb
  have HPA := Lib.hid (fun W (hW : PW W ad mz) => parse_any l (Nat.le_trans ll hl) ad mz W hW)
  rw [hx] at HPA
  obtain ⟨hg, hf, _⟩ := text_parse l x hx
  have HEN := Lib.hid (fun W (hW : Two W ad) => word_yes x hf hg ad W hW)
  have HP0 := Lib.hid hP0
  obtain ⟨v', c', hv'⟩ : ∃ v' c', wv = .slice v' ws.length c' := by
    rcases Joins.ownsRow_forms h.words with ⟨rfl, hz⟩ | ⟨g, cap, rfl⟩
    · exact ⟨_, _, by rw [hz]⟩
    · exact ⟨_, _, rfl⟩
  subst hv'
  have HA := Lib.hid h
  have HWL := Lib.hid hwl
  have HQL := Lib.hid hql
  obtain ⟨iU, hU1, hU2, hU3, hU4⟩ := info_parts Tryz.infoU
  obtain ⟨iQ, hQ1, hQ2, hQ3, hQ4⟩ := info_parts Tryz.infoQ
  clear h hs hp hlb hx hP hP0 hg hf ll hwl hql
  generalize Lib.trimPrefix s [46, 119, 111, 114, 100] = d at *
  generalize Lib.trimSuffix s [58] = ts at *
  generalize encL x (fieldsB x.op.toNat) = xv at *
  go_enter Tryz.func48, Tryz.ntmps48
  go_wp2_with fail
  refine HS.out.mono ?_
  rintro e w1 ⟨rfl, rfl⟩
  go_wp2_with fail
  refine HPF.out.mono ?_
  rintro e w1 ⟨rfl, rfl⟩
  go_wp2_with fail
  refine HLB.out.mono ?_
  rintro e w2 ⟨hb2, ⟨hno, _⟩ | ⟨l', y', hly, rfl⟩⟩
  · rw [HLN.out] at hno; cases hno
  have hly2 := hly
  rw [HLN.out] at hly2
  simp only [Option.some.injEq, Prod.mk.injEq] at hly2
  obtain ⟨rfl, rfl⟩ := hly2
  have HA2 := Lib.hid (HA.out.trans hb2)
  clear hb2 HA HLB hly
  obtain ⟨c0, c1, c2, c3, f1, f3⟩ := AB.cells HA2.out.blk
  have hsize := HA2.out.size
  have hql := HQL.out
  have hwl := HWL.out
  have HAL := HA2.out.trans ((Below.refl w2.heap.size w2).alloc (Nat.le_refl _) (.cells #[.int .i64 i, .int .i64 (ws.length : Int), .string (bsl y)] 97))
  obtain ⟨p0, p1, p2, p3, r1, r3⟩ := AB.cells HAL.blk
  clear HAL
  go_upto_region 19 with fail
  go_region_law (refine step_append_lies _ rfl (.tmp 87) (.tmp 96) 89 rfl w0.heap.size 97 iQ (.agg #[.int .i64 0, .int .i64 0, .string ByteArray.empty]) 3 32 Tryz.underlying89 hQ1 hQ2 hQ3 hQ4 rfl (by decide) _ qs.length (qs.flatMap waitC) rfl (HA2.out.waits.alloc _) _ 1 1 (waitC (i, ((ws.length : Int), y))) rfl rfl (three_news w2 _ _ _ _) (waitC_one _) (by decide) (by unfold maxLen; omega) (by omega) (by simp; omega) _ rfl ?_; intro g cap w6 hown6 hgrow6 hat6 hlt6; obtain ⟨hA6, hAB6⟩ := (by first | exact rest_wait HA2.out hown6 hgrow6 | exact rest_wait HA2.out.drew hown6 hgrow6 : AsW w0.heap.size w0 (w6.setCell ⟨ab, 3, none⟩ (.slice (some ⟨g, 0, none⟩) (qs.length + 1) cap)) ab base (.slice v' ws.length c') ws lm n D (.slice (some ⟨g, 0, none⟩) (qs.length + 1) cap) (qs ++ [(i, ((ws.length : Int), y))]) ∧ AB w6 ab base (.slice v' ws.length c') lm qv); have HA6 := Lib.hid hA6; obtain ⟨a0, a1, a2, a3, b1, b3⟩ := AB.cells hAB6; clear hA6 hAB6 hown6 hgrow6 hat6 hlt6)
  all_goals
    have HP6 := Lib.hid (HP0.out.below HA6.out.below)
    clear a0 a1 a2 a3 b1 b3 c0 c1 c2 c3 f1 f3 p0 p1 p2 p3 r1 r3 hsize
    generalize w6.setCell ⟨ab, 3, none⟩ (.slice (some ⟨g, 0, none⟩) (qs.length + 1) cap) = w7 at *
    go_wp2_with fail
    refine (HPA.out _ HP6.out).mono ?_
    rintro e w3 ⟨rfl, hb3⟩
    have HA3 := Lib.hid (HA6.out.trans hb3)
    clear hb3 HA6 HP6 HPA
    rw [errV_0]
    have hF := Five.new w3 (.int .i64 x.op) (.int .i64 x.s) (.int .i64 x.t) (.int .i64 x.d) (.int .u32 x.imm) 24
    have hal := (Below.refl w3.heap.size w3).alloc (Nat.le_refl _) (.cells #[.int .i64 x.op, .int .i64 x.s, .int .i64 x.t, .int .i64 x.d, .int .u32 x.imm] 24)
    have HA4 := Lib.hid (HA3.out.trans hal)
    have HP4 := Lib.hid (HP0.out.below HA4.out.below)
    obtain ⟨d0, d1, d2, d3, d4⟩ := Five.cells hF
    clear hF hal HA3
    go_wp2_with fail
    generalize w3.alloc (.cells #[.int .i64 x.op, .int .i64 x.s, .int .i64 x.t, .int .i64 x.d, .int .u32 x.imm] 24) = w4 at *
    refine (HEN.out _ ⟨HP4.out.se.c1, HP4.out.se.c3⟩).mono ?_
    rintro e w5 ⟨rfl, hb5⟩
    have HA5 := Lib.hid (HA4.out.trans hb5)
    clear hb5 HA4 HP4 HEN d0 d1 d2 d3 d4
    obtain ⟨c0, c1, c2, c3, f1, f3⟩ := AB.cells HA5.out.blk
    have hsize := HA5.out.size
    go_wp2_with (at_builtin; refine wpList_append_lies _ rfl (.tmp 118) (.tmp 120) 39 rfl w0.heap.size 22 iU (.int .u32 0) 1 4 Tryz.underlying39 hU1 hU2 hU3 hU4 rfl (by decide) _ _ _ rfl (HA5.out.words.alloc _) _ 1 1 [_] rfl rfl (cell_one_new _ _ _) (fun x hx => by simp at hx; subst hx; rfl) (by decide) (by unfold maxLen; omega) (by omega) (by simp; omega) _ rfl ?_)
    intro g0 cap0 w8 hown4 hgrow4 hat4 hlt4
    have hgr : w5.grownBy w8 (Value.slice v' ws.length c').ownBlock := (World.grownBy_alloc w5 _ _).trans hgrow4
    have hA4 := HA5.out.word hown4 hgr
    have HA8 := Lib.hid hA4
    have hab4 : AB w8 ab base (.slice v' ws.length c') lm _ := (hgr.block ab (Array.getElem?_eq_some_iff.1 HA5.out.blk).1 (own_ne HA5.out.words HA5.out.blk (by decide))).trans HA5.out.blk
    clear hown4 hgrow4 hat4 hlt4 hgr hA4
    obtain ⟨a0, a1, a2, a3, b1, b3⟩ := AB.cells hab4
    clear c0 c1 c2 c3 f1 f3 hab4
    go_wp2_with fail
    go_ret
    exact ⟨rfl, _, _, HA8.out⟩
end Go.Proofs.YtnppegldebocmaaGreatDoor
namespace Go.Proofs.YtnppegldebocmaaGreatDoor
open Go.RowKit Go.Maps
set_option linter.unusedVariables false
abbrev Waits := List (Int × Int × List UInt8)
/-- Words, labels, branches that wait. -/
abbrev StQ := (List Int × DataW Unit) × Waits
/-- What a line that is well makes of words, labels and branches that wait. -/
def stepQ (base : Int) (i : Int) (st : StQ) (s : List UInt8) : Option StQ :=
  if Lib.hasSuffix s [58] = false ∧ Lib.hasPrefix s [46, 119, 111, 114, 100] = false then
    match labelledB s with
    | some (l, y) => if (parseB l).2 = 0 then some ((st.1.1 ++ [encL (parseB l).1 (fieldsB (parseB l).1.op.toNat)], st.1.2), st.2 ++ [(i, (st.1.1.length : Int), y)]) else none
    | none => (stepB base st.1 s).map fun r => (r, st.2)
  else (stepB base st.1 s).map fun r => (r, st.2)
def goodQ (base : Int) : Int → List (List UInt8) → StQ → Option StQ
  | _, [], st => some st
  | i, s :: L, st => match stepQ base i st s with
    | none => none
    | some st' => goodQ base (i + 1) L st'
theorem goodQ_cons {base i : Int} {s : List UInt8} {L : List (List UInt8)} {st r : StQ} (h : goodQ base i (s :: L) st = some r) : ∃ st', stepQ base i st s = some st' ∧ goodQ base (i + 1) L st' = some r := by
  unfold goodQ at h
  split at h
  · cases h
  · next st' h1 => exact ⟨st', h1, h⟩
theorem goodQ_app {base : Int} : ∀ (L M : List (List UInt8)) (i : Int) (st st' : StQ), goodQ base i L st = some st' → goodQ base i (L ++ M) st = goodQ base (i + L.length) M st'
  | [], M, i, st, st', h => by
    simp only [goodQ, Option.some.injEq] at h
    subst h
    simp
  | s :: L, M, i, st, st', h => by
    obtain ⟨st1, h1, h2⟩ := goodQ_cons h
    rw [List.cons_append]
    show (match stepQ base i st s with | none => none | some st' => goodQ base (i + 1) (L ++ M) st') = _
    rw [h1]
    simp only
    rw [goodQ_app L M (i + 1) st1 st' h2, show i + 1 + (L.length : Int) = i + ((s :: L).length : Int) from by rw [List.length_cons]; omega]
theorem stepQ_len {base i : Int} {st st' : StQ} {s : List UInt8} (h : stepQ base i st s = some st') : st'.1.1.length ≤ st.1.1.length + 1 ∧ st'.2.length ≤ st.2.length + 1 := by
  have hB : ∀ o, (stepB base st.1 s).map (fun r => (r, st.2)) = some o → o.1.1.length ≤ st.1.1.length + 1 ∧ o.2.length ≤ st.2.length + 1 := by
    intro o ho
    cases hs : stepB base st.1 s with
    | none => rw [hs] at ho; cases ho
    | some r =>
      rw [hs] at ho
      cases ho
      exact ⟨step_len hs, Nat.le_succ _⟩
  unfold stepQ at h
  split at h
  · split at h
    · split at h
      · cases h; simp
      · cases h
    · exact hB _ h
  · exact hB _ h
theorem stepQ_of (base i : Int) (st : StQ) (s : List UInt8) (r : List Int × DataW Unit) (h : stepB base st.1 s = some r) (hn : Lib.hasSuffix s [58] = true ∨ Lib.hasPrefix s [46, 119, 111, 114, 100] = true ∨ labelledB s = none) : stepQ base i st s = some (r, st.2) := by
  unfold stepQ
  split
  · next hc =>
    rcases hn with e | e | e
    · rw [e] at hc; cases hc.1
    · rw [e] at hc; cases hc.2
    · rw [e, h]; rfl
  · rw [h]; rfl
theorem lineq_good {w0 w : World} {ab : Nat} {base : Int} {wv : Value} {lm n : Nat} {qv : Value} (st st' : StQ) (h : AsW w0.heap.size w0 w ab base wv st.1.1 lm n st.1.2 qv st.2)
    (ad : Nat → Addr) (mz : Int) (hP0 : PW w0 ad mz) (i : Int) (s : List UInt8) (hl : s.length ≤ 100) (hn : n < 1000) (hw : st.1.1.length < 1000) (hq : st.2.length < 1000) (hst : stepQ base i st s = some st') :
    Calls Tryz.prog 48 #[.pointer (some ⟨ab, 0, none⟩), .int .i64 i, .string (bsl s)] w fun e w' => e = .returned .nilIface ∧ ∃ wv' qv' n', n' ≤ n + 1 ∧ AsW w0.heap.size w0 w' ab base wv' st'.1.1 lm n' st'.1.2 qv' st'.2 := by
  have hP := hP0.below h.below
  have hB : ∀ o, (stepB base st.1 s).map (fun r => (r, st.2)) = some o → Calls Tryz.prog 48 #[.pointer (some ⟨ab, 0, none⟩), .int .i64 i, .string (bsl s)] w fun e w' => e = .returned .nilIface ∧ ∃ wv' qv' n', n' ≤ n + 1 ∧ AsW w0.heap.size w0 w' ab base wv' o.1.1 lm n' o.1.2 qv' o.2 := by
    intro o ho
    cases hs : stepB base st.1 s with
    | none => rw [hs] at ho; cases ho
    | some r =>
      rw [hs] at ho
      cases ho
      refine (line_good st.1 r h ad mz hP i s hl hn hw hs).mono ?_
      rintro e w' ⟨rfl, wv', n', hn', hA⟩
      exact ⟨rfl, wv', qv, n', hn', hA⟩
  unfold stepQ at hst
  split at hst
  · next hc =>
    split at hst
    · next l y hly =>
      split at hst
      · next h0 =>
        cases hst
        have hx : parseB l = ((parseB l).1, 0) := by rw [← h0]
        refine (line_branch h ad mz hP0 i s l y _ hl hc.1 hc.2 hly hx hw hq).mono ?_
        rintro e w' ⟨rfl, wv', qv', hA⟩
        exact ⟨rfl, wv', qv', n, Nat.le_succ n, hA⟩
      · cases hst
    · exact hB _ hst
  · exact hB _ hst
/-- A branch's instruction, once its label's place is known (far ones aside). -/
def brNew (base tz : Int) (k : Nat) (x : InsN) : Option InsN :=
  if fieldsB x.op.toNat = [106] then
    if bits .and .u32 tz 4026531840 = bits .and .u32 (((base + 4 * (k : Int)) % 4294967296 + 4) % 4294967296) 4026531840 then some { x with imm := bits .and .u32 (tz / 4) 67108863 } else none
  else if wrap64 ((wrap64 (wrap32 ((tz - ((base + 4 * (k : Int)) % 4294967296 + 4) % 4294967296) % 4294967296))).tdiv 4) < -32768 ∨ 32767 < wrap64 ((wrap64 (wrap32 ((tz - ((base + 4 * (k : Int)) % 4294967296 + 4) % 4294967296) % 4294967296))).tdiv 4) then none
  else some { x with imm := bits .and .u32 (wrap64 ((wrap64 (wrap32 ((tz - ((base + 4 * (k : Int)) % 4294967296 + 4) % 4294967296) % 4294967296))).tdiv 4) % 4294967296) 65535 }
/-- All branches that wait are settled. -/
inductive SettleS (base : Int) (D : DataW Unit) : Waits → List Int → List Int → Prop
  | nil (ws : List Int) : SettleS base D [] ws ws
  | cons (i : Int) (k : Nat) (y : List UInt8) (qs : Waits) (ws r : List Int) (tz z : Int) (x' : InsN) (hk : k < ws.length) (hy : y.length ≤ 100) (hh : Maps.has D (.string y) = true) (ht : D.atKey (.string y) (.lit (.int .u32 0)) = .lit (.int .u32 tz)) (ht0 : 0 ≤ tz) (ht1 : tz < 4294967296)
      (hz : ws[k] = z) (hz0 : 0 ≤ z) (hz1 : z < 4294967296) (hx : brNew base tz k (decZ z) = some x') (hf : x'.Fits) (hg : goodI x') (hr : SettleS base D qs (ws.set k (encL x' (fieldsB x'.op.toNat))) r) : SettleS base D ((i, (k : Int), y) :: qs) ws r
end Go.Proofs.YtnppegldebocmaaGreatDoor
namespace Go.Proofs.YtnppegldebocmaaGreatDoor
open Go.RowKit Go.Maps
set_option linter.unusedVariables false
/-- A label that is there, looked up in whatever world. -/
theorem AsW.look {B : Nat} {w0 w : World} {ab : Nat} {base : Int} {wv : Value} {ws : List Int} {lm n : Nat} {D : DataW Unit} {qv : Value} {qs : List (Int × Int × List UInt8)} (h : AsW B w0 w ab base wv ws lm n D qv qs)
    (y : List UInt8) (hy : y.length ≤ 100) (tz : Int) (hh : Maps.has D (.string y) = true) (ht : D.atKey (.string y) (.lit (.int .u32 0)) = .lit (.int .u32 tz)) :
    (Instr.lookup 88 (.map (some lm)) (.string (bsl y)) true).run Tryz.prog w = .ok (.tuple #[.int .u32 tz, .bool true]) w := by
  obtain ⟨es, clock, hb, F, _, hD⟩ := h.labels
  rcases Maps.fit_look true mapLaw Tryz.underlying88 (zeroE32 w) hb F (key_of y hy) with ⟨_, _, hat⟩ | ⟨e0, z, _, _, hrun, hRv, hat, _⟩
  · rw [← hD] at hat
    rw [Maps.has_false_of_atKey hat] at hh
    cases hh
  · rw [← hD] at hat
    rw [hat] at ht
    obtain ⟨c, hc, hcc, _⟩ := plainElem_int_inv Tryz.underlying22 hRv
    rw [hcc] at ht
    simp only [DataW.lit.injEq, Lit.int.injEq, true_and] at ht
    subst ht
    rw [hc] at hrun
    simpa using hrun
/-- A word is laid anew. -/
theorem AsW.put {B : Nat} {w0 w : World} {ab : Nat} {base : Int} {g cap : Nat} {ws : List Int} {lm n : Nat} {D : DataW Unit} {qv : Value} {qs : List (Int × Int × List UInt8)} (h : AsW B w0 w ab base (.slice (some ⟨g, 0, none⟩) ws.length cap) ws lm n D qv qs) (k : Nat) (x : Int) :
    AsW B w0 (w.setCell ⟨g, k, none⟩ (.int .u32 x)) ab base (.slice (some ⟨g, 0, none⟩) ws.length cap) (ws.set k x) lm n D qv qs := by
  obtain ⟨es, clock, m1, m2, m3, m4⟩ := h.labels
  obtain ⟨h1, h2⟩ := h.words.stored k (.int .u32 x)
  have hgab : some ab ≠ some g := own_ne h.words h.blk (by decide)
  have hglm : some lm ≠ some g := own_map_ne h.words m1
  refine ⟨(setCell_other w g k ab _ (fun e => hgab (by rw [e]))).trans h.blk, ?_, h.waits.kept h2 ?_, ⟨es, clock, (setCell_other w g k lm _ (fun e => hglm (by rw [e]))).trans m1, m2, m3, m4⟩, h.below.grown h2 h.size (fun k hk => (h.words.lt k hk).1), h.lo, h.lom, by simpa using h.size⟩
  · rw [List.length_set, List.map_set]; exact h1
  · rcases h.waits.2 with ⟨e, _⟩ | ⟨g', cap', cur, e, _, hh, _⟩
    · exact Or.inl (by rw [e]; rfl)
    · refine Or.inr ?_
      rw [e]
      exact own_ne h.words hh (by decide)
set_option maxHeartbeats 4000000 in
set_option maxRecDepth 1000000 in
theorem settle_any {w0 w : World} {ab : Nat} {base : Int} {wv : Value} {ws : List Int} {lm n : Nat} {D : DataW Unit} {qv : Value} {qs : List (Int × Int × List UInt8)} (h : AsW w0.heap.size w0 w ab base wv ws lm n D qv qs)
    (ad : Nat → Addr) (mz : Int) (hP0 : PW w0 ad mz) (line : Int) (k : Nat) (y : List UInt8) (hy : y.length ≤ 100) (tz : Int) (hk : k < ws.length) (hwl : ws.length < 1000) (z : Int) (hz : ws[k] = z) (hzz : 0 ≤ z ∧ z < 4294967296)
    (hh : Maps.has D (.string y) = true) (ht : D.atKey (.string y) (.lit (.int .u32 0)) = .lit (.int .u32 tz)) (hb0 : 0 ≤ base) (hb1 : base < 4294967296) (ht0 : 0 ≤ tz) (ht1 : tz < 4294967296)
    (x' : InsN) (hx : brNew base tz k (decZ z) = some x') (hf : x'.Fits) (hg : goodI x') :
    Calls Tryz.prog 49 #[.pointer (some ⟨ab, 0, none⟩), .agg #[.int .i64 line, .int .i64 (k : Int), .string (bsl y)]] w fun e w' => e = .returned .nilIface ∧ AsW w0.heap.size w0 w' ab base wv (ws.set k (encL x' (fieldsB x'.op.toNat))) lm n D qv qs := by
  have hal := (Below.refl w.heap.size w).alloc (Nat.le_refl _) (.cells #[.int .i64 line, .int .i64 (k : Int), .string (bsl y)] 97)
  have HA := Lib.hid (h.trans hal)
  have hq : (w.alloc (.cells #[.int .i64 line, .int .i64 (k : Int), .string (bsl y)] 97)).heap[w.heap.size]? = some (.cells #[.int .i64 line, .int .i64 (k : Int), .string (bsl y)] 97 (0, 0)) := heap_alloc_new _ _
  have q0 : (w.alloc (.cells #[.int .i64 line, .int .i64 (k : Int), .string (bsl y)] 97)).cell? ⟨w.heap.size, 0, none⟩ = some (.int .i64 line) := by unfold World.cell?; rw [hq]; rfl
  have q1 : (w.alloc (.cells #[.int .i64 line, .int .i64 (k : Int), .string (bsl y)] 97)).cell? ⟨w.heap.size, 1, none⟩ = some (.int .i64 (k : Int)) := by unfold World.cell?; rw [hq]; rfl
  have q2 : (w.alloc (.cells #[.int .i64 line, .int .i64 (k : Int), .string (bsl y)] 97)).cell? ⟨w.heap.size, 2, none⟩ = some (.string (bsl y)) := by unfold World.cell?; rw [hq]; rfl
  have HQ := Lib.hid hq
  obtain ⟨g, cap, rfl⟩ := Joins.ownsRow_form h.words (by omega)
  have HP0 := Lib.hid hP0
  have HZ := Lib.hid hz
  have HEN := Lib.hid (fun W (hW : Two W ad) => word_yes x' hf hg ad W hW)
  have HX := Lib.hid hx
  have HZB := Lib.hid hzz
  have hlk : ∀ j : Nat, (Instr.lookup 88 (.map (some lm)) (.string (bsl y)) true).run Tryz.prog ((w.alloc (.cells #[.int .i64 line, .int .i64 (k : Int), .string (bsl y)] 97)).drewN j) = .ok (.tuple #[.int .u32 tz, .bool true]) ((w.alloc (.cells #[.int .i64 line, .int .i64 (k : Int), .string (bsl y)] 97)).drewN j) := fun j => (HA.out.trans (bdrewN (Below.refl _ _) j)).look y hy tz hh ht
  have hlk1 : (Instr.lookup 88 (.map (some lm)) (.string (bsl y)) true).run Tryz.prog ((w.alloc (.cells #[.int .i64 line, .int .i64 (k : Int), .string (bsl y)] 97)).drew) = .ok (.tuple #[.int .u32 tz, .bool true]) ((w.alloc (.cells #[.int .i64 line, .int .i64 (k : Int), .string (bsl y)] 97)).drew) := (HA.out.drew).look y hy tz hh ht
  obtain ⟨c0, c1, c2, c3, f1, f3⟩ := AB.cells HA.out.blk
  clear h hal hh ht hP0 hq hz hzz hx hf hg
  go_enter Tryz.func49, Tryz.ntmps49
  go_upto_region 1 with fail
  generalize w.alloc (.cells #[.int .i64 line, .int .i64 (k : Int), .string (bsl y)] 97) = wa at *
  go_region
  have hgk : wa.cell? ⟨g, k, none⟩ = some (.int .u32 z) := by
    have := HA.out.words.cells rfl k (.int .u32 z) (by rw [List.getElem?_map, List.getElem?_eq_getElem hk, HZ.out]; rfl)
    have ha : (⟨g, 0, none⟩ : Addr).add k = ⟨g, k, none⟩ := by
      unfold Addr.add
      cases k <;> simp
    rw [ha] at this
    exact this
  clear hlk hlk1
  have HQ1 := Lib.hid q1
  have HGK := Lib.hid hgk
  have HBN := Lib.hid (fun n : Nat => (bdrewN (Below.refl wa.heap.size wa) n).alloc (Nat.le_refl _) (.cells #[.int .i64 0, .int .i64 0, .int .i64 0, .int .i64 0, .int .u32 0] 24))
  have k1 : ∀ n : Nat, ((wa.drewN n).alloc (.cells #[.int .i64 0, .int .i64 0, .int .i64 0, .int .i64 0, .int .u32 0] 24)).cell? ⟨ab, 1, none⟩ = some (.slice (some ⟨g, 0, none⟩) ws.length cap) := fun n => (AB.cells (HA.out.trans (HBN.out n)).blk).2.1
  have k2 : ∀ n : Nat, ((wa.drewN n).alloc (.cells #[.int .i64 0, .int .i64 0, .int .i64 0, .int .i64 0, .int .u32 0] 24)).cell? ⟨w.heap.size, 1, none⟩ = some (.int .i64 (k : Int)) := fun n => ((HBN.out n).cell (World.block_lt_of_cell? _ _ q1)).trans q1
  have k3 : ∀ n : Nat, ((wa.drewN n).alloc (.cells #[.int .i64 0, .int .i64 0, .int .i64 0, .int .i64 0, .int .u32 0] 24)).cell? ⟨g, k, none⟩ = some (.int .u32 z) := fun n => ((HBN.out n).cell (World.block_lt_of_cell? _ _ hgk)).trans hgk
  go_upto_region 4 with fail
  go_quiet (fail)
  go_upto_region 5 with fail
  have HDC := Lib.hid (fun W => decode_any z HZB.out.1 HZB.out.2 W)
  generalize hyd : decZ z = yd at *
  generalize hbh : ((base + 4 * (k : Int)) % 4294967296 + 4) % 4294967296 = bh at *
  have HBH := Lib.hid hbh
  have HYD := Lib.hid hyd
  clear hbh hyd
  go_cut [8] from 24 to 43 (fun s8 wx => ∃ bx : Nat, s8 = .pointer (some ⟨bx, 0, none⟩) ∧ Hid (InsAt wx bx yd ∧ wa.heap.size ≤ bx) ∧ Hid (Below wa.heap.size wa wx))
  case first =>
    go_region_with (go_at_call 14; refine (HDC.out _).mono ?_; rintro e w3 ⟨rfl, hb3⟩; try (have zF : Five w3 wa.heap.size 24 (.int .i64 0) (.int .i64 0) (.int .i64 0) (.int .i64 0) (.int .u32 0) := (Five.new (wa.drewN (1 + nq + 1)) (.int .i64 0) (.int .i64 0) (.int .i64 0) (.int .i64 0) (.int .u32 0) 24).below hb3 (by simp); obtain ⟨z0, z1, z2, z3, z4⟩ := Five.cells zF; obtain ⟨y0, y1, y2, y3, y4⟩ := Five.free zF))
    all_goals
      go_wp2
      go_meet
      first
      | exact ⟨_, rfl, ⟨Five.fill zF _ _ _ _ _, Nat.le_refl _⟩, below_fill ((HBN.out _).trans (hb3.mono (HBN.out _).size)) (Nat.le_refl _) _ _ _ _ _⟩
      | exact ⟨_, rfl, ⟨Five.new w3 _ _ _ _ _ _, hb3.size⟩, ((bdrewN (Below.refl wa.heap.size wa) _).trans hb3).alloc hb3.size _⟩
  case rest =>
    obtain ⟨bx, rfl, HIX, HBX⟩ := hcut
    rename World => wk
    have HAX := Lib.hid (HA.out.trans HBX.out)
    have hq1 : wk.cell? ⟨w.heap.size, 1, none⟩ = some (.int .i64 (k : Int)) := (HBX.out.cell (World.block_lt_of_cell? _ _ q1)).trans q1
    obtain ⟨x0, x1, x2, x3, x4⟩ := Five.cells HIX.out.1
    have HFD := Lib.hid (fun W => fields_any yd.op W)
    clear k1 k2 k3 c0 c1 c2 c3 f1 f3 q0 q1 q2 hgk
    go_wp2_with fail
    refine (HFD.out _).mono ?_
    rintro e w4 ⟨rfl, hb4⟩
    have HB4 := Lib.hid (HBX.out.trans (hb4.mono HBX.out.size))
    have HI4 := Lib.hid (Five.below HIX.out.1 hb4 (Five.lt HIX.out.1))
    have HA4 := Lib.hid (HA.out.trans HB4.out)
    clear hb4 HAX hq1 x0 x1 x2 x3 x4 HFD
    have hxo := HX.out
    unfold brNew at hxo
    rw [HBH.out] at hxo
    by_cases hj : fieldsB yd.op.toNat = [106]
    · rw [if_pos hj] at hxo
      have hnj : ((fieldsS yd.op).toList == [106]) = true := by
        rw [show fieldsS yd.op = bsl (fieldsB yd.op.toNat) from rfl, bsl_l2, hj]; rfl
      split at hxo
      case isFalse => cases hxo
      next hhi =>
      have hx' := (Option.some.inj hxo).symm
      have HXE := Lib.hid hx'
      clear hxo hj hx'
      obtain ⟨fs, hfs⟩ : ∃ fs, fieldsS yd.op = fs := ⟨_, rfl⟩
      rw [hfs] at hnj ⊢
      clear hfs
      obtain ⟨x0, x1, x2, x3, x4⟩ := Five.cells HI4.out
      obtain ⟨f0, f1, f2, f3, f4⟩ := Five.free HI4.out
      go_upto_region 14 with fail
      have HB5 := Lib.hid (HB4.out.setCell (p := ⟨bx, 4, none⟩) HIX.out.2 (.int .u32 (bits .and .u32 (tz / 4) 67108863)))
      have HI5 := Lib.hid (InsAt.imm (i := yd) HI4.out (bits .and .u32 (tz / 4) 67108863))
      rw [← HXE.out] at HI5
      generalize w4.setCell ⟨bx, 4, none⟩ (.int .u32 (bits .and .u32 (tz / 4) 67108863)) = w5 at *
      have HA5 := Lib.hid (HA.out.trans HB5.out)
      have HP5 := Lib.hid (HP0.out.below HA5.out.below)
      obtain ⟨x0, x1, x2, x3, x4⟩ := Five.cells HI5.out
      clear f0 f1 f2 f3 f4 HI4 HB4 HA4 hhi HXE
      go_wp2_with fail
      refine (HEN.out _ ⟨HP5.out.se.c1, HP5.out.se.c3⟩).mono ?_
      rintro e w6 ⟨rfl, hb6⟩
      have HA6 := Lib.hid (HA5.out.trans hb6)
      have hq1 : w6.cell? ⟨w.heap.size, 1, none⟩ = some (.int .i64 (k : Int)) := ((HB5.out.trans (hb6.mono HB5.out.size)).cell (World.block_lt_of_cell? _ _ HQ1.out)).trans HQ1.out
      obtain ⟨c0, c1, c2, c3, f1, f3⟩ := AB.cells HA6.out.blk
      have hfz := HA6.out.words.frozenAt k
      have hgk : w6.cell? ⟨g, k, none⟩ = some (.int .u32 z) := ((HB5.out.trans (hb6.mono HB5.out.size)).cell (World.block_lt_of_cell? _ _ HGK.out)).trans HGK.out
      have hkl : (k : Int) < (ws.length : Int) := by go_light; omega
      clear hb6 x0 x1 x2 x3 x4 HB5 HI5 HA5 HP5
      generalize hxv : encL x' (fieldsB x'.op.toNat) = xv at *
      have HXV := Lib.hid hxv
      clear hxv
      go_upto_region 15 with fail
      go_region_with fail
      all_goals
        go_wp2
        go_ret
        refine ⟨rfl, ?_⟩
        rw [HXV.out]
        first
        | exact (HA6.out.put k xv).drew
        | exact HA6.out.drew.put k xv
        | exact HA6.out.put k xv
    · rw [if_neg hj] at hxo
      have hnj : ((fieldsS yd.op).toList == [106]) = false := by
        rw [show fieldsS yd.op = bsl (fieldsB yd.op.toNat) from rfl, bsl_l2]
        exact beq_eq_false_iff_ne.2 hj
      split at hxo
      case isTrue => cases hxo
      next hdd =>
      have hx' := (Option.some.inj hxo).symm
      obtain ⟨dz, hdz⟩ : ∃ dz, wrap64 ((wrap64 (wrap32 ((tz - bh) % 4294967296))).tdiv 4) = dz := ⟨_, rfl⟩
      rw [hdz] at hdd hx'
      have hd1 : ¬ dz < -32768 := fun e => hdd (Or.inl e)
      have hd2 : ¬ 32767 < dz := fun e => hdd (Or.inr e)
      have HXE := Lib.hid hx'
      have HDZ := Lib.hid hdz
      clear hxo hj hx' hdd hdz
      obtain ⟨fs, hfs⟩ : ∃ fs, fieldsS yd.op = fs := ⟨_, rfl⟩
      rw [hfs] at hnj ⊢
      clear hfs
      go_upto_region 11 with fail
      rw [HDZ.out]
      obtain ⟨x0, x1, x2, x3, x4⟩ := Five.cells HI4.out
      obtain ⟨f0, f1, f2, f3, f4⟩ := Five.free HI4.out
      go_upto_region 14 with fail
      have HB5 := Lib.hid (HB4.out.setCell (p := ⟨bx, 4, none⟩) HIX.out.2 (.int .u32 (bits .and .u32 (dz % 4294967296) 65535)))
      have HI5 := Lib.hid (InsAt.imm (i := yd) HI4.out (bits .and .u32 (dz % 4294967296) 65535))
      rw [← HXE.out] at HI5
      generalize w4.setCell ⟨bx, 4, none⟩ (.int .u32 (bits .and .u32 (dz % 4294967296) 65535)) = w5 at *
      have HA5 := Lib.hid (HA.out.trans HB5.out)
      have HP5 := Lib.hid (HP0.out.below HA5.out.below)
      obtain ⟨x0, x1, x2, x3, x4⟩ := Five.cells HI5.out
      clear f0 f1 f2 f3 f4 HI4 HB4 HA4 hd1 hd2 HXE
      go_wp2_with fail
      refine (HEN.out _ ⟨HP5.out.se.c1, HP5.out.se.c3⟩).mono ?_
      rintro e w6 ⟨rfl, hb6⟩
      have HA6 := Lib.hid (HA5.out.trans hb6)
      have hq1 : w6.cell? ⟨w.heap.size, 1, none⟩ = some (.int .i64 (k : Int)) := ((HB5.out.trans (hb6.mono HB5.out.size)).cell (World.block_lt_of_cell? _ _ HQ1.out)).trans HQ1.out
      obtain ⟨c0, c1, c2, c3, f1, f3⟩ := AB.cells HA6.out.blk
      have hfz := HA6.out.words.frozenAt k
      have hgk : w6.cell? ⟨g, k, none⟩ = some (.int .u32 z) := ((HB5.out.trans (hb6.mono HB5.out.size)).cell (World.block_lt_of_cell? _ _ HGK.out)).trans HGK.out
      have hkl : (k : Int) < (ws.length : Int) := by go_light; omega
      clear hb6 x0 x1 x2 x3 x4 HB5 HI5 HA5 HP5
      generalize hxv : encL x' (fieldsB x'.op.toNat) = xv at *
      have HXV := Lib.hid hxv
      clear hxv
      go_upto_region 15 with fail
      go_region_with fail
      all_goals
        go_wp2
        go_ret
        refine ⟨rfl, ?_⟩
        rw [HXV.out]
        first
        | exact (HA6.out.put k xv).drew
        | exact HA6.out.drew.put k xv
        | exact HA6.out.put k xv
end Go.Proofs.YtnppegldebocmaaGreatDoor
namespace Go.Proofs.YtnppegldebocmaaGreatDoor
open Go.RowKit Go.Maps
set_option linter.unusedVariables false
theorem flat3 : ∀ (qs : Waits) (j : Nat) (h : j < qs.length), (qs.flatMap waitC)[j * 3]? = some (.int .i64 (qs[j]'h).1) ∧ (qs.flatMap waitC)[j * 3 + 1]? = some (.int .i64 (qs[j]'h).2.1) ∧ (qs.flatMap waitC)[j * 3 + 2]? = some (.string (bsl (qs[j]'h).2.2))
  | [], j, h => absurd h (by simp)
  | q :: qs, 0, h => by simp [waitC]
  | q :: qs, j + 1, h => by
    obtain ⟨a, b, c⟩ := flat3 qs j (by simpa using h)
    have e0 : (j + 1) * 3 = j * 3 + 3 := by omega
    rw [e0, List.flatMap_cons]
    refine ⟨?_, ?_, ?_⟩
    · rw [List.getElem?_append_right (by simp [waitC])]; simpa [waitC] using a
    · rw [List.getElem?_append_right (by simp [waitC])]; simpa [waitC] using b
    · rw [List.getElem?_append_right (by simp [waitC])]; simpa [waitC] using c
theorem addr_add (g j : Nat) : (⟨g, 0, none⟩ : Addr).add j = ⟨g, j, none⟩ := by
  unfold Addr.add
  cases j <;> simp
theorem goodQ_len {base : Int} : ∀ (L : List (List UInt8)) (i : Int) (st r : StQ), goodQ base i L st = some r → r.1.1.length ≤ st.1.1.length + L.length ∧ r.2.length ≤ st.2.length + L.length
  | [], i, st, r, h => by
    simp only [goodQ, Option.some.injEq] at h
    subst h
    exact ⟨Nat.le_refl _, Nat.le_refl _⟩
  | s :: L, i, st, r, h => by
    obtain ⟨st', h1, h2⟩ := goodQ_cons h
    have a := stepQ_len h1
    have b := goodQ_len L _ st' r h2
    simp only [List.length_cons]
    omega
theorem settle_step {w0 w : World} {ab : Nat} {base : Int} {wv : Value} {ws : List Int} {lm n : Nat} {D : DataW Unit} {qv : Value} {qs0 : Waits} (h : AsW w0.heap.size w0 w ab base wv ws lm n D qv qs0)
    (ad : Nat → Addr) (mz : Int) (hP0 : PW w0 ad mz) (hb0 : 0 ≤ base) (hb1 : base < 4294967296) {q : Int × Int × List UInt8} {qs : Waits} {r : List Int} (hs : SettleS base D (q :: qs) ws r) (hwl : ws.length < 1000) :
    Calls Tryz.prog 49 #[.pointer (some ⟨ab, 0, none⟩), .agg #[.int .i64 q.1, .int .i64 q.2.1, .string (bsl q.2.2)]] w fun e w' => e = .returned .nilIface ∧ ∃ ws2 : List Int, ws2.length = ws.length ∧ SettleS base D qs ws2 r ∧ AsW w0.heap.size w0 w' ab base wv ws2 lm n D qv qs0 := by
  cases hs with
  | cons i k y qs ws r tz z x' hk hy hh ht ht0 ht1 hz hz0 hz1 hx hf hg hr =>
    refine (settle_any h ad mz hP0 i k y hy tz hk hwl z hz ⟨hz0, hz1⟩ hh ht hb0 hb1 ht0 ht1 x' hx hf hg).mono ?_
    rintro e w' ⟨rfl, hA⟩
    exact ⟨rfl, _, by simp, hr, hA⟩
set_option maxHeartbeats 2000000 in
set_option maxRecDepth 1000000 in
theorem assemble_waits (L : List (List UInt8)) (hL : L.length ≤ 200) (hlen : ∀ s ∈ L, s.length ≤ 100) (base : Int) (hb0 : 0 ≤ base) (hb1 : base < 4294967296) (hb4 : base % 4 = 0) (r : StQ) (hg : goodQ base 0 L (([], .map []), []) = some r) (res : List Int) (hset : SettleS base r.1.2 r.2 r.1.1 res)
    (ad : Nat → Addr) (mz : Int) (w : World) (hP : PW w ad mz) (B0 : Nat) (v : Value) (hv : w.ownsRow B0 9 1 v L.length (L.map fun s => .string (bsl s))) :
    Calls Tryz.prog 16 #[v, .int .u32 base] w fun e w' => ∃ wv, e = .returned (.tuple #[wv, .nilIface]) ∧ w'.ownsRow w.heap.size 22 1 wv res.length (res.map (.int .u32)) ∧ Below w.heap.size w w' := by
  obtain ⟨v', c', hv'⟩ : ∃ v' c', v = .slice v' L.length c' := by
    rcases Joins.ownsRow_forms hv with ⟨rfl, hz⟩ | ⟨g, cap, rfl⟩
    · exact ⟨_, _, by rw [hz]⟩
    · exact ⟨_, _, rfl⟩
  subst hv'
  have HV := Lib.hid hv
  have HP := Lib.hid hP
  have HLEN := Lib.hid hlen
  have HG := Lib.hid hg
  have HSET := Lib.hid hset
  obtain ⟨hgl1, hgl2⟩ := goodQ_len L 0 _ r hg
  simp only [List.length_nil, Nat.zero_add] at hgl1 hgl2
  have HGL := Lib.hid (And.intro hgl1 hgl2)
  have hmm := @run_makeMap Tryz.prog
  have hbt : base.tmod 4 = 0 := by rw [Int.tmod_eq_emod_of_nonneg hb0]; exact hb4
  have hlz : ¬ (200 : Int) < (L.length : Int) := by omega
  clear hv hP hlen hg hset hgl1 hgl2
  go_enter Tryz.func16, Tryz.ntmps16
  go_wp2_with fail
  have hA0 : AsW w.heap.size w ((w.alloc (.map #[] 0)).alloc (.cells #[.int .u32 base, .slice none 0 0, .map (some w.heap.size), .slice none 0 0] 91)) (w.heap.size + 1) base (.slice none 0 0) [] w.heap.size 0 (.map []) (.slice none 0 0) [] := by
    have hz : (w.alloc (.map #[] 0)).heap.size = w.heap.size + 1 := by simp
    refine ⟨?_, World.ownsRow_nil _ _ _ _, World.ownsRow_nil _ _ _ _, (World.ownsMap_made w _ _ _).alloc _, ((Below.refl _ _).alloc (Nat.le_refl _) _).alloc (by simp) _, Nat.le_succ _, Nat.le_refl _, by simp; omega⟩
    have := heap_alloc_new (w.alloc (.map #[] 0)) (.cells #[.int .u32 base, .slice none 0 0, .map (some w.heap.size), .slice none 0 0] 91)
    rw [hz] at this
    exact this
  have HA0 := Lib.hid hA0
  clear hA0 hmm hbt
  generalize (w.alloc (.map #[] 0)).alloc (.cells #[.int .u32 base, .slice none 0 0, .map (some w.heap.size), .slice none 0 0] 91) = w2 at *
  go_loopw [29] (fun kv wr => ∃ (j : Nat) (st : StQ) (wv qv : Value) (n : Nat), j ≤ L.length ∧ n ≤ j ∧ st.1.1.length ≤ j ∧ st.2.length ≤ j ∧ kv = .int .i64 (j : Int) ∧ Hid (goodQ base (j : Int) (L.drop j) st = some r) ∧ Hid (AsW w.heap.size w wr (w.heap.size + 1) base wv st.1.1 w.heap.size n st.1.2 qv st.2)) (fun kv _ => L.length - (intOf kv).toNat)
  case atStart => exact ⟨0, (([], .map []), []), _, _, 0, Nat.zero_le _, Nat.le_refl _, Nat.le_refl _, Nat.le_refl _, rfl, HG, HA0⟩
  case round =>
    obtain ⟨j, st, wv, qv, n, hj, hnj, hsj, hqj, rfl, HGJ, HAJ⟩ := hrel
    by_cases hlt : j < L.length
    · obtain ⟨g, cap, hvf⟩ := Joins.ownsRow_form HV.out (by go_light; omega)
      have hcell : w.cell? ⟨g, j, none⟩ = some (.string (bsl L[j])) := by
        have := HV.out.cells (show (Value.slice v' L.length c').ownBlock = some g by rw [hvf]; rfl) j (.string (bsl L[j])) (by rw [List.getElem?_map, List.getElem?_eq_getElem hlt]; rfl)
        have ha : (⟨g, 0, none⟩ : Addr).add j = ⟨g, j, none⟩ := by
          unfold Addr.add
          cases j <;> simp
        rw [ha] at this
        exact this
      have hgl : g < w.heap.size := (HV.out.lt g (by rw [hvf]; rfl)).2
      simp only [Value.slice.injEq] at hvf
      obtain ⟨hv1, _, rfl⟩ := hvf
      subst hv1
      have hcr : wr.cell? ⟨g, j, none⟩ = some (.string (bsl L[j])) := (HAJ.out.below.cell (by exact hgl)).trans hcell
      have hd : L.drop j = L[j] :: L.drop (j + 1) := List.drop_eq_getElem_cons hlt
      have hgj := HGJ.out
      rw [hd] at hgj
      obtain ⟨st', h1, h2⟩ := goodQ_cons hgj
      have hsl : L[j].length ≤ 100 := HLEN.out _ (List.getElem_mem hlt)
      have HLI := Lib.hid (lineq_good st st' HAJ.out ad mz HP.out (j : Int) L[j] hsl (by go_light; omega) (by go_light; omega) (by go_light; omega) h1)
      have HS2 := Lib.hid (stepQ_len h1)
      have HG2 : Hid (goodQ base ((j + 1 : Nat) : Int) (L.drop (j + 1)) st' = some r) := by show _ = _; rw [← h2]; congr 1
      have hjl : (j : Int) < (L.length : Int) := by go_light; omega
      generalize L[j] = sj at *
      clear hcell hd hgj h1 h2 hsl hgl
      go_wp2_with fail
      refine HLI.out.mono ?_
      rintro e w3 ⟨rfl, wv', qv', n', hn', hA3⟩
      have HA3 := Lib.hid hA3
      clear hA3
      go_wp2_with fail
      go_roundw
      case rel => exact ⟨j + 1, st', wv', qv', n', hlt, by go_light; omega, by have := HS2.out.1; go_light; omega, by have := HS2.out.2; go_light; omega, by go_num, HG2, HA3⟩
      case measure => go_light; simp [intOf]; omega
    · have hje : j = L.length := by go_light; omega
      subst hje
      have hgj := HGJ.out
      rw [List.drop_length] at hgj
      have hst : st = r := Option.some.inj hgj
      subst hst
      have HAJ2 := HAJ
      obtain ⟨c0, c1, c2, c3, f1, f3⟩ := AB.cells HAJ.out.blk
      obtain ⟨q', qc', hq'⟩ : ∃ q' qc', qv = .slice q' st.2.length qc' := by
        rcases Joins.ownsRow_forms HAJ.out.waits with ⟨rfl, hz⟩ | ⟨g, cap, rfl⟩
        · exact ⟨_, _, by rw [hz]⟩
        · exact ⟨_, _, rfl⟩
      subst hq'
      clear hlt hgj
      go_wp2_with fail
      go_loopw [51] (fun kv wx => ∃ (k : Nat) (ws' : List Int), k ≤ st.2.length ∧ ws'.length ≤ 200 ∧ kv = .int .i64 (k : Int) ∧ Hid (SettleS base st.1.2 (st.2.drop k) ws' res) ∧ Hid (AsW w.heap.size w wx (w.heap.size + 1) base wv ws' w.heap.size n st.1.2 (.slice q' st.2.length qc') st.2)) (fun kv _ => st.2.length - (intOf kv).toNat)
      case atStart => exact ⟨0, st.1.1, Nat.zero_le _, by have := HGL.out.1; go_light; omega, rfl, HSET, HAJ2⟩
      case round =>
        obtain ⟨k, ws', hk, hwl, rfl, HSJ, HAK⟩ := hrel
        by_cases hlt : k < st.2.length
        · obtain ⟨g, cap, hvf⟩ := Joins.ownsRow_form HAK.out.waits (by go_light; omega)
          obtain ⟨t0, t1, t2⟩ := flat3 st.2 k hlt
          have hca := HAK.out.waits.cells (show (Value.slice q' st.2.length qc').ownBlock = some g by rw [hvf]; rfl)
          have hd : st.2.drop k = st.2[k] :: st.2.drop (k + 1) := List.drop_eq_getElem_cons hlt
          have hsj := HSJ.out
          rw [hd] at hsj
          have hc0 := hca _ _ t0
          have hc1 := hca _ _ t1
          have hc2 := hca _ _ t2
          rw [addr_add] at hc0 hc1 hc2
          simp only [Value.slice.injEq] at hvf
          obtain ⟨hv1, _, rfl⟩ := hvf
          subst hv1
          have hkl : (k : Int) < (st.2.length : Int) := by go_light; omega
          generalize st.2[k] = q at *
          have hal := (Below.refl wr.heap.size wr).alloc (Nat.le_refl _) (.cells #[.int .i64 q.1, .int .i64 q.2.1, .string (bsl q.2.2)] 97)
          have HST := Lib.hid (settle_step (HAK.out.trans hal) ad mz HP.out hb0 hb1 hsj (by go_light; omega))
          clear hca t0 t1 t2 hd hsj hal
          go_wp2_with fail
          refine HST.out.mono ?_
          rintro e w3 ⟨rfl, ws2, hws2, hsj2, hA3⟩
          have HA3 := Lib.hid hA3
          have HSJ2 := Lib.hid hsj2
          clear hA3 hsj2 HST hc0 hc1 hc2
          go_wp2_with fail
          go_roundw
          case rel => exact ⟨k + 1, ws2, hlt, by go_light; omega, by go_num, HSJ2, HA3⟩
          case measure => go_light; simp [intOf]; omega
        · have hke : k = st.2.length := by go_light; omega
          subst hke
          have hsj := HSJ.out
          rw [List.drop_length] at hsj
          have hre : ws' = res := by cases hsj; rfl
          subst hre
          obtain ⟨d0, d1, d2, d3, g1, g3⟩ := AB.cells HAK.out.blk
          clear hlt hsj
          go_wp2_with fail
          exact bodyPost_ret (v := .tuple #[wv, .nilIface]) (by simp [results, Tryz.results16, go_sem]) rfl ⟨wv, rfl, HAK.out.words, HAK.out.below⟩
end Go.Proofs.YtnppegldebocmaaGreatDoor
