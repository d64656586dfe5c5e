/- Plain: what law3's LowerEnds compares: the region's instructions stepped one by one, and what Lower answers evaluated. A row of instructions copied by append. Conditions: as each theorem states. -/
import Derived.Test.YtadoaldnjnkhgaaGreatDoorQ31
import Derived.Test.YtadoaldnjnkhgaaGreatDoorQ29
import Derived.Test.YtadoaldnjnkhgaaGreatDoorQ17
import Derived.Test.YtadoaldnjnkhgaaGreatDoorQ27
import Derived.Deep.AppendLies
set_option linter.unusedVariables false
set_option linter.unusedSimpArgs false
namespace Go.Proofs.YtadoaldnjnkhgaaGreatDoor
open Go.RowKit
theorem okS_of : ∀ (l : List InsN) (sl : Bool), (∀ j (h : j < l.length), brOp (l[j]'h).o = true → j + 2 = l.length) → (sl = true → l.length ≤ 1) → okS l sl
  | [], _, _, _ => trivial
  | i :: l, sl, hb, hs => by
    have h0 : brOp i.o = true → 2 = l.length + 1 := fun e => by
      have := hb 0 (by simp) e
      simpa using this
    refine ⟨fun e => ?_, okS_of l _ (fun j h e => ?_) (fun e => ?_)⟩
    · cases sl with
      | false => rfl
      | true =>
        have h1 := h0 e
        have h2 := hs rfl
        rw [List.length_cons] at h2
        omega
    · have := hb (j + 1) (by rw [List.length_cons]; omega) e
      rw [List.length_cons] at this
      omega
    · have := h0 e
      omega
theorem reg_list {l : List InsN} (h : regErr l = 0) (hm : ∀ i ∈ l, 0 ≤ i.imm) : (∀ i ∈ l, InsR i ∧ (plainOp i.o = true ∨ brOp i.o = true)) ∧ okS l false := by
  obtain ⟨h1, h2, h3, h4⟩ := reg_parts h hm
  refine ⟨fun i hi => ?_, okS_of l false (fun j hj e => (h4 j hj).2.1 e) (fun e => by cases e)⟩
  obtain ⟨j, hj, rfl⟩ := List.getElem_of_mem hi
  refine ⟨(h4 j hj).1, ?_⟩
  cases hb : brOp (l[j]).o with
  | true => exact .inr rfl
  | false => exact .inl ((h4 j hj).2.2.1 hb)
inductive Ways (wt : Nat → Bool) (l : List InsN) (s : StF) (ws : List Int) : Prop where
  | trap (k : Nat) (he : evalZ wt (lowAll s.pc l) (regsOf s) ws = .trap k) (hs : ∀ s' F', stepsF wt l s ⟨ws, fun _ => false, [], 0, []⟩ = some (s', F') → HitAny F'.hit true)
  | leave (pc : Int) (X : Regs) (ws' : List Int) (s' : StF) (F' : BusF) (he : evalZ wt (lowAll s.pc l) (regsOf s) ws = .leave pc X ws') (hs : stepsF wt l s ⟨ws, fun _ => false, [], 0, []⟩ = some (s', F')) (hh : HitAny F'.hit false) (hw : F'.ws = ws')
      (hg : ∀ j, j < 43 → stG s' j = stG { s with r := fun k => if k = 0 then s.r 0 else X k, hi := X 32, lo := X 33, pc := pc, next := (pc + 4) % 4294967296, count := s.count + (l.length : Int) } j)
theorem ways_any {wt : Nat → Bool} {l : List InsN} {s : StF} {ws : List Int} (h : regErr l = 0) (hm : ∀ i ∈ l, 0 ≤ i.imm) (hg : StG s ⟨ws, fun _ => false, [], 0, []⟩ l.length) (h0 : s.r 0 = 0) (hsl : s.slot = false) (hn : s.next = (s.pc + 4) % 4294967296) : Ways wt l s ws := by
  obtain ⟨hl, hok⟩ := reg_list h hm
  have hA : Agree (regsOf s) (gsOf s).r (gsOf s).hi (gsOf s).lo := {
    zero := rfl
    reg := fun k h1 h2 => by
      show regsOf s k = s.r k
      unfold regsOf
      rw [if_neg (by omega), if_pos h2]
    h := rfl
    l := rfl }
  have h1 := lowAll_ends (watch := wt) h hm (regsOf s) (gsOf s) ws hg.g hg.w hA h0 hsl hg.pc.1 hg.pc.2 hn
  have h2 := steps_link (wt := wt) l s ⟨ws, fun _ => false, [], 0, []⟩ false hl (by rw [hsl]; exact hok) hg ⟨fun e => (by cases e), fun ⟨p, _, e⟩ => (by cases e)⟩
  unfold EndsAs stepsZ at h1
  revert h1 h2
  show _ → (match walkZ wt l (gsOf s) ws false with
    | none => _
    | some (g', ws', h') => _) → _
  cases hw : walkZ wt l (gsOf s) ws false with
  | none =>
    intro h1 h2
    obtain ⟨k, hk⟩ := h1
    exact .trap k hk (fun s' F' e => by rw [h2] at e; cases e)
  | some x =>
    obtain ⟨g', ws', h'⟩ := x
    cases h' with
    | true =>
      intro h1 h2
      obtain ⟨k, hk⟩ := h1
      obtain ⟨F', e1, e2, e3, e4⟩ := h2
      exact .trap k hk (fun s2 F2 e => by
        rw [e1] at e
        cases e
        exact e3)
    | false =>
      intro h1 h2
      obtain ⟨X', a1, a2, a3, a4, a5⟩ := h1
      obtain ⟨F', e1, e2, e3, e4⟩ := h2
      refine .leave g'.pc X' ws' _ F' a1 e1 e3 e2 (fun j hj => ?_)
      have hr : ∀ k, k < 32 → g'.r k = if k = 0 then s.r 0 else X' k := by
        intro k hk
        by_cases e : k = 0
        · subst e
          rw [if_pos rfl, h0, a3]
        · rw [if_neg e, a2.reg k (by omega) hk]
      by_cases e : j < 32
      · simp only [stG, if_pos e, hr j e]
      · simp only [stG, if_neg e, a2.h, a2.l, a4, a5, hsl]
end Go.Proofs.YtadoaldnjnkhgaaGreatDoor
namespace Go.Proofs.YtadoaldnjnkhgaaGreatDoor
open Go.RowKit
theorem addr_off (g o j : Nat) : (⟨g, o, none⟩ : Addr).add j = ⟨g, o + j, none⟩ := by
  unfold Addr.add
  cases j <;> simp
def insC (i : InsN) : List Value := [.int .i64 i.op, .int .i64 i.s, .int .i64 i.t, .int .i64 i.d, .int .u32 i.imm]
theorem flat5 : ∀ (L : List InsN) (j : Nat) (h : j < L.length) (c : Nat), c < 5 → (L.flatMap insC)[j * 5 + c]? = (insC L[j])[c]?
  | [], j, h, c, hc => absurd h (Nat.not_lt_zero j)
  | i :: t, 0, h, c, hc => by
    rw [List.flatMap_cons, List.getElem?_append_left (by simp [insC]; omega)]
    simp
  | i :: t, j + 1, h, c, hc => by
    rw [List.flatMap_cons, List.getElem?_append_right (by simp [insC]; omega)]
    have e : (j + 1) * 5 + c - (insC i).length = j * 5 + c := by simp [insC]; omega
    rw [e, flat5 t j (by simpa using h) c hc]
    simp
theorem flat5_len (L : List InsN) : (L.flatMap insC).length = L.length * 5 := by
  induction L with
  | nil => rfl
  | cons i t ih =>
    rw [List.flatMap_cons, List.length_append, ih, List.length_cons]
    simp [insC]
    omega
theorem flat5_one (L : List InsN) : ∀ u ∈ L.flatMap insC, u.oneCell' = true := by
  intro u hu
  obtain ⟨i, _, h⟩ := List.mem_flatMap.1 hu
  simp only [insC, List.mem_cons, List.not_mem_nil, or_false] at h
  rcases h with rfl | rfl | rfl | rfl | rfl <;> rfl
theorem flat5_news {w : World} {g o : Nat} {L : List InsN} (h : InsAt w g o L) : ∀ j u, (L.flatMap insC)[j]? = some u → w.cell? ((⟨g, o, none⟩ : Addr).add j) = some u := by
  intro j u hu
  have hlt : j < L.length * 5 := by rw [← flat5_len]; exact (List.getElem?_eq_some_iff.1 hu).1
  obtain ⟨q, c, hc, rfl⟩ : ∃ q c, c < 5 ∧ j = q * 5 + c := ⟨j / 5, j % 5, by omega, by omega⟩
  have hq : q < L.length := by omega
  rw [flat5 L q hq c hc] at hu
  have ha : ((⟨g, o, none⟩ : Addr).add (q * 5 + c)) = ⟨g, o + q * 5 + c, none⟩ := by
    rw [Nat.add_assoc, addr_off]
  rw [ha]
  obtain ⟨c0, c1, c2, c3, c4⟩ := h.row q hq
  have hcc : c = 0 ∨ c = 1 ∨ c = 2 ∨ c = 3 ∨ c = 4 := by omega
  rcases hcc with rfl | rfl | rfl | rfl | rfl <;> (simp only [insC, List.getElem?_cons_zero, List.getElem?_cons_succ, Option.some.injEq] at hu; subst hu)
  · exact c0
  · exact c1
  · exact c2
  · exact c3
  · exact c4
theorem insAt_own {w : World} {B g cap : Nat} {L : List InsN} (h : w.ownsRow B 61 5 (.slice (some ⟨g, 0, none⟩) L.length cap) L.length (L.flatMap insC)) (hn : 0 < L.length) :
    InsAt w g 0 L ∧ B ≤ g ∧ ∃ cs fr, w.heap[g]? = some (.cells cs 61 fr) := by
  obtain ⟨hl, h' | ⟨g2, cap2, cur, hv, hg, hh, hc, _⟩⟩ := id h
  · exact absurd h'.2 (by omega)
  · have hgg : g = g2 := by
      simp only [Value.slice.injEq, Option.some.injEq, Addr.mk.injEq] at hv
      exact hv.1.1
    subst hgg
    refine ⟨⟨fun j hj => ?_⟩, hg, _, _, hh⟩
    have key : ∀ c u, c < 5 → (insC L[j])[c]? = some u → w.cell? ⟨g, 0 + j * 5 + c, none⟩ = some u := by
      intro c u hc5 hu
      have := h.cells (show (Value.slice (some ⟨g, 0, none⟩) L.length cap).ownBlock = some g from rfl) (j * 5 + c) u (by rw [flat5 L j hj c hc5]; exact hu)
      have ha : (⟨g, 0, none⟩ : Addr).add (j * 5 + c) = ⟨g, 0 + j * 5 + c, none⟩ := by
        rw [Nat.add_assoc, addr_off]
      rw [ha] at this
      exact this
    exact ⟨key 0 _ (by omega) rfl, key 1 _ (by omega) rfl, key 2 _ (by omega) rfl, key 3 _ (by omega) rfl, key 4 _ (by omega) rfl⟩
theorem Tryz.infoIns : (Tryz.prog.info? 61).map (fun i => (i.zero, i.size, i.bytes)) = some (some (.agg #[.int .i64 0, .int .i64 0, .int .i64 0, .int .i64 0, .int .u32 0]), 5, 40) := by kernel_rfl
end Go.Proofs.YtadoaldnjnkhgaaGreatDoor
