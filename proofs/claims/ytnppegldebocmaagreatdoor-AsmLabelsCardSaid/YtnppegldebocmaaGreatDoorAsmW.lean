/- The state of an assembler in memory; the walk of (*assembler).here. Conditions: as each theorem states. -/
import Derived.Test.YtnppegldebocmaaGreatDoorLabelW
import Derived.Test.YtnppegldebocmaaGreatDoorUint
import Derived.Maps.OwnSet
import Derived.Deep.AppendLies
import Derived.Deep.RegionLaw
namespace Go.Proofs.YtnppegldebocmaaGreatDoor
open Go.RowKit Go.Maps
set_option linter.unusedVariables false
/-- The assembler's block. -/
abbrev AB (w : World) (ab : Nat) (base : Int) (wv : Value) (lm : Nat) (qv : Value) : Prop := w.heap[ab]? = some (.cells #[.int .u32 base, wv, .map (some lm), qv] 91 (0, 0))
theorem AB.cells {w : World} {ab : Nat} {base : Int} {wv : Value} {lm : Nat} {qv : Value} (h : AB w ab base wv lm qv) :
    w.cell? ⟨ab, 0, none⟩ = some (.int .u32 base) ∧ w.cell? ⟨ab, 1, none⟩ = some wv ∧ w.cell? ⟨ab, 2, none⟩ = some (.map (some lm)) ∧ w.cell? ⟨ab, 3, none⟩ = some qv ∧
    w.frozen? ⟨ab, 1, none⟩ = false ∧ w.frozen? ⟨ab, 3, none⟩ = false := by
  unfold AB at h
  refine ⟨?_, ?_, ?_, ?_, ?_, ?_⟩ <;> simp [World.cell?, World.frozen?, h]
/-- A branch that waits, in cells. -/
def waitC (q : Int × Int × List UInt8) : List Value := [.int .i64 q.1, .int .i64 q.2.1, .string (bsl q.2.2)]
theorem mapLaw : Keyed Tryz.prog 9 := string_keyed Tryz.underlying9
theorem zeroE32 (w : World) : (zeroValue 22).run Tryz.prog w = .ok (.int .u32 0) w := by kernel_rfl
/-- An assembler as memory has it: base, words, labels, branches that wait. -/
structure AsW (B : Nat) (w0 w : World) (ab : Nat) (base : Int) (wv : Value) (ws : List Int) (lm n : Nat) (D : DataW Unit) (qv : Value) (qs : List (Int × Int × List UInt8)) : Prop where
  blk : AB w ab base wv lm qv
  words : w.ownsRow B 22 1 wv ws.length (ws.map (.int .u32))
  waits : w.ownsRow B 97 3 qv qs.length (qs.flatMap waitC)
  labels : w.ownsMap Tryz.prog 9 (plainElem Tryz.prog 22) lm n D
  below : Below B w0 w
  lo : B ≤ ab
  lom : B ≤ lm
  size : B ≤ w.heap.size
theorem AsW.trans {B : Nat} {w0 w w' : World} {ab : Nat} {base : Int} {wv : Value} {ws : List Int} {lm n : Nat} {D : DataW Unit} {qv : Value} {qs : List (Int × Int × List UInt8)} (h : AsW B w0 w ab base wv ws lm n D qv qs) (hb : Below w.heap.size w w') : AsW B w0 w' ab base wv ws lm n D qv qs where
  blk := (hb.block ab (Array.getElem?_eq_some_iff.1 h.blk).1).trans h.blk
  words := own_below h.words hb
  waits := own_below h.waits hb
  labels := by
    obtain ⟨es, clock, h1, h2, h3, h4⟩ := h.labels
    exact ⟨es, clock, (hb.block lm (Array.getElem?_eq_some_iff.1 h1).1).trans h1, h2, h3, h4⟩
  below := h.below.trans (hb.mono h.size)
  lo := h.lo
  lom := h.lom
  size := Nat.le_trans h.size hb.size
def hereZ (base : Int) (k : Nat) : Int := (base + 4 * ((k : Int) % 4294967296) % 4294967296) % 4294967296
set_option maxHeartbeats 1000000 in
theorem here_any {B : Nat} {w0 w : World} {ab : Nat} {base : Int} {wv : Value} {ws : List Int} {lm n : Nat} {D : DataW Unit} {qv : Value} {qs : List (Int × Int × List UInt8)} (h : AsW B w0 w ab base wv ws lm n D qv qs) :
    Calls Tryz.prog 81 #[.pointer (some ⟨ab, 0, none⟩)] w fun e w' => e = .returned (.int .u32 (hereZ base ws.length)) ∧ ∃ k, w' = w.drewN k := by
  obtain ⟨c0, c1, c2, c3, f1, f3⟩ := AB.cells h.blk
  obtain ⟨v', c', hv'⟩ : ∃ v' c', wv = .slice v' ws.length c' := by
    rcases Joins.ownsRow_forms h.words with ⟨rfl, hz⟩ | ⟨g, cap, rfl⟩
    · exact ⟨_, _, by rw [hz]⟩
    · exact ⟨_, _, rfl⟩
  subst hv'
  clear h
  go_enter Tryz.func81, Tryz.ntmps81
  go_wp2_with fail
  go_quiet (fail)
  go_wp2
  go_ret
  exact ⟨rfl, _, rfl⟩
theorem own_ne {w : World} {base : Nat} {e t : TypeId} {size : Nat} {v : Value} {n k : Nat} {xs : List Value} {cs : Array Value} {fr : Nat × Nat} (h : w.ownsRow base e size v n xs) (hk : w.heap[k]? = some (.cells cs t fr)) (hne : e ≠ t) : some k ≠ v.ownBlock := by
  intro hh
  rcases h.2 with ⟨h1, _⟩ | ⟨g, cap, cur, hv, _, hg, _⟩
  · rw [h1] at hh; cases hh
  · rw [hv] at hh
    simp only [Value.ownBlock, Option.some.injEq] at hh
    rw [hh, hg] at hk
    simp only [Option.some.injEq, Obj.cells.injEq] at hk
    exact hne hk.2.1
theorem own_block {w w' : World} {base : Nat} {e : TypeId} {size : Nat} {v : Value} {n : Nat} {xs : List Value} (h : w.ownsRow base e size v n xs) (hb : ∀ g, v.ownBlock = some g → w'.heap[g]? = w.heap[g]?) : w'.ownsRow base e size v n xs := by
  obtain ⟨hl, h | ⟨g, cap, cur, hv, hg, hh, r⟩⟩ := h
  · exact ⟨hl, .inl h⟩
  · exact ⟨hl, .inr ⟨g, cap, cur, hv, hg, (hb g (by rw [hv]; rfl)).trans hh, r⟩⟩
theorem own_map_ne {w : World} {base : Nat} {e : TypeId} {size : Nat} {v : Value} {n k : Nat} {xs : List Value} {es : Array MapEntry} {clock : Nat} (h : w.ownsRow base e size v n xs) (hk : w.heap[k]? = some (.map es clock)) : some k ≠ v.ownBlock := by
  intro hh
  rcases h.2 with ⟨h1, _⟩ | ⟨g, cap, cur, hv, _, hg, _⟩
  · rw [h1] at hh; cases hh
  · rw [hv] at hh
    simp only [Value.ownBlock, Option.some.injEq] at hh
    rw [hh, hg] at hk
    cases hk
theorem setCell_other (w : World) (b i k : Nat) (v : Value) (h : k ≠ b) : (w.setCell ⟨b, i, none⟩ v).heap[k]? = w.heap[k]? := Below.heap_setCell _ _ _ _ h
theorem map_block {w w' : World} {P : Program} {k : TypeId} {R : Value → Option (DataW Unit × List MemPlace)} {b n : Nat} {D : DataW Unit} (h : w.ownsMap P k R b n D) (hb : w'.heap[b]? = w.heap[b]?) : w'.ownsMap P k R b n D := by
  obtain ⟨es, clock, h1, r⟩ := h
  exact ⟨es, clock, hb.trans h1, r⟩
/-- A word is appended. -/
theorem AsW.word {B : Nat} {w0 w w4 : World} {ab : Nat} {base : Int} {wv wv' : Value} {ws : List Int} {x : Int} {lm n : Nat} {D : DataW Unit} {qv : Value} {qs : List (Int × Int × List UInt8)} (h : AsW B w0 w ab base wv ws lm n D qv qs)
    (hown : w4.ownsRow B 22 1 wv' (ws.length + 1) (ws.map (.int .u32) ++ [.int .u32 x])) (hg : w.grownBy w4 wv.ownBlock) : AsW B w0 (w4.setCell ⟨ab, 1, none⟩ wv') ab base wv' (ws ++ [x]) lm n D qv qs := by
  obtain ⟨es, clock, m1, m2, m3, m4⟩ := h.labels
  have hab : w4.heap[ab]? = _ := (hg.block ab (Array.getElem?_eq_some_iff.1 h.blk).1 (own_ne h.words h.blk (by decide))).trans h.blk
  have hlm : w4.heap[lm]? = _ := (hg.block lm (Array.getElem?_eq_some_iff.1 m1).1 (own_map_ne h.words m1)).trans m1
  have hne : lm ≠ ab := fun e => by rw [e, hab] at hlm; cases hlm
  have hq4 : w4.ownsRow B 97 3 qv qs.length (qs.flatMap waitC) := h.waits.kept hg (by
    rcases h.waits.2 with ⟨e, _⟩ | ⟨g, cap, cur, e, _, hh, _⟩
    · exact Or.inl (by rw [e]; rfl)
    · refine Or.inr ?_
      rw [e]
      exact own_ne h.words hh (by decide))
  have hz : (w4.setCell ⟨ab, 1, none⟩ wv').heap.size = w4.heap.size := by simp
  have ownT : ∀ {e : TypeId} {size n : Nat} {v : Value} {xs : List Value}, w4.ownsRow B e size v n xs → e ≠ 91 → (w4.setCell ⟨ab, 1, none⟩ wv').ownsRow B e size v n xs := fun {e size n v xs} h hne =>
    own_block h fun g hg2 => setCell_other w4 ab 1 g wv' (fun e2 => own_ne h hab hne (by rw [hg2, e2]))
  refine ⟨Joins.block_setCell (i := 1) hab wv', ?_, ownT hq4 (by decide), ⟨es, clock, (setCell_other w4 ab 1 lm wv' hne).trans hlm, m2, m3, m4⟩, (h.below.grown hg h.size (fun k hk => (h.words.lt k hk).1)).setCell h.lo _, h.lo, h.lom, by rw [hz]; exact Nat.le_trans h.size hg.size⟩
  have := ownT hown (by decide)
  rw [List.length_append, List.map_append]
  exact this
/-- A branch that waits is appended. -/
theorem AsW.wait {B : Nat} {w0 w w4 : World} {ab : Nat} {base : Int} {wv qv' : Value} {ws : List Int} {lm n : Nat} {D : DataW Unit} {qv : Value} {qs : List (Int × Int × List UInt8)} {q : Int × Int × List UInt8} (h : AsW B w0 w ab base wv ws lm n D qv qs)
    (hown : w4.ownsRow B 97 3 qv' (qs.length + 1) (qs.flatMap waitC ++ waitC q)) (hg : w.grownBy w4 qv.ownBlock) : AsW B w0 (w4.setCell ⟨ab, 3, none⟩ qv') ab base wv ws lm n D qv' (qs ++ [q]) := by
  obtain ⟨es, clock, m1, m2, m3, m4⟩ := h.labels
  have hab : w4.heap[ab]? = _ := (hg.block ab (Array.getElem?_eq_some_iff.1 h.blk).1 (own_ne h.waits h.blk (by decide))).trans h.blk
  have hlm : w4.heap[lm]? = _ := (hg.block lm (Array.getElem?_eq_some_iff.1 m1).1 (own_map_ne h.waits m1)).trans m1
  have hne : lm ≠ ab := fun e => by rw [e, hab] at hlm; cases hlm
  have hw4 : w4.ownsRow B 22 1 wv ws.length (ws.map (.int .u32)) := h.words.kept hg (by
    rcases h.words.2 with ⟨e, _⟩ | ⟨g, cap, cur, e, _, hh, _⟩
    · exact Or.inl (by rw [e]; rfl)
    · refine Or.inr ?_
      rw [e]
      exact own_ne h.waits hh (by decide))
  have hz : (w4.setCell ⟨ab, 3, none⟩ qv').heap.size = w4.heap.size := by simp
  have ownT : ∀ {e : TypeId} {size n : Nat} {v : Value} {xs : List Value}, w4.ownsRow B e size v n xs → e ≠ 91 → (w4.setCell ⟨ab, 3, none⟩ qv').ownsRow B e size v n xs := fun {e size n v xs} h hne =>
    own_block h fun g hg2 => setCell_other w4 ab 3 g qv' (fun e2 => own_ne h hab hne (by rw [hg2, e2]))
  refine ⟨Joins.block_setCell (i := 3) hab qv', ownT hw4 (by decide), ?_, ⟨es, clock, (setCell_other w4 ab 3 lm qv' hne).trans hlm, m2, m3, m4⟩, (h.below.grown hg h.size (fun k hk => (h.waits.lt k hk).1)).setCell h.lo _, h.lo, h.lom, by rw [hz]; exact Nat.le_trans h.size hg.size⟩
  have := ownT hown (by decide)
  rw [List.length_append, List.flatMap_append]
  simpa using this
/-- A label is laid. -/
theorem AsW.label {B : Nat} {w0 w w4 : World} {ab : Nat} {base : Int} {wv : Value} {ws : List Int} {lm n : Nat} {D D' : DataW Unit} {qv : Value} {qs : List (Int × Int × List UInt8)} (h : AsW B w0 w ab base wv ws lm n D qv qs)
    (hown : w4.ownsMap Tryz.prog 9 (plainElem Tryz.prog 22) lm (n + 1) D') (hg : w.grownBy w4 (some lm)) : AsW B w0 w4 ab base wv ws lm (n + 1) D' qv qs := by
  obtain ⟨es, clock, m1, m2, m3, m4⟩ := h.labels
  have hne : lm ≠ ab := fun e => by rw [e, h.blk] at m1; cases m1
  refine ⟨(hg.block ab (Array.getElem?_eq_some_iff.1 h.blk).1 (fun e => hne (Option.some.inj e).symm)).trans h.blk, h.words.kept hg ?_, h.waits.kept hg ?_, hown, h.below.grown hg h.size (fun k hk => by cases hk; exact h.lom), h.lo, h.lom, Nat.le_trans h.size hg.size⟩
  · by_cases hv : wv.ownBlock = none
    · exact Or.inl hv
    · exact Or.inr (fun e => own_map_ne h.words m1 e.symm)
  · by_cases hv : qv.ownBlock = none
    · exact Or.inl hv
    · exact Or.inr (fun e => own_map_ne h.waits m1 e.symm)
end Go.Proofs.YtnppegldebocmaaGreatDoor
