/- The walk of (*former).take. Conditions: as each theorem states. -/
import Derived.Test.YtnppegldebocmaaDoorReg
namespace Go.Proofs.YtnppegldebocmaaDoor
open Go.RowKit
set_option linter.unusedVariables false
theorem own_ne {w : World} {base : Nat} {e t : TypeId} {size : Nat} {v : Value} {n k : Nat} {xs : List Value} {cs : Array Value} {fr : Nat × Nat} (h : w.ownsRow base e size v n xs) (hk : w.heap[k]? = some (.cells cs t fr)) (hne : e ≠ t) : some k ≠ v.ownBlock := by
  intro hh
  rcases h.2 with ⟨h1, _⟩ | ⟨g, cap, cur, hv, _, hg, _⟩
  · rw [h1] at hh; cases hh
  · rw [hv] at hh
    simp only [Value.ownBlock, Option.some.injEq] at hh
    rw [hh, hg] at hk
    simp only [Option.some.injEq, Obj.cells.injEq] at hk
    exact hne hk.2.1
theorem own_block {w w' : World} {base : Nat} {e : TypeId} {size : Nat} {v : Value} {n : Nat} {xs : List Value} (h : w.ownsRow base e size v n xs) (hb : ∀ g, v.ownBlock = some g → w'.heap[g]? = w.heap[g]?) : w'.ownsRow base e size v n xs := by
  obtain ⟨hl, h | ⟨g, cap, cur, hv, hg, hh, r⟩⟩ := h
  · exact ⟨hl, .inl h⟩
  · exact ⟨hl, .inr ⟨g, cap, cur, hv, hg, (hb g (by rw [hv]; rfl)).trans hh, r⟩⟩
theorem setCell_other (w : World) (b i k : Nat) (v : Value) (h : k ≠ b) : (w.setCell ⟨b, i, none⟩ v).heap[k]? = w.heap[k]? := Below.heap_setCell _ _ _ _ h
theorem contains_own {B : Nat} {vp : Value} {ps : List Int} (x : Int) (w : World) (h : w.ownsRow B 3 1 vp ps.length (ps.map (.int .i64))) (hl : ps.length ≤ 1000) :
    ∃ b, Calls Tryd.prog 58 #[vp, .int .i64 x] w fun e w' => e = .returned (.bool b) ∧ w = w' := by
  rcases Joins.ownsRow_forms h with ⟨rfl, hz⟩ | ⟨g, cap, rfl⟩
  · exact ⟨false, (Tryd.slices_Contains_int_empty none 0 x w).mono fun e w' h => ⟨h.1, h.2.symm⟩⟩
  · refine ⟨_, (Tryd.slices_Contains_int g 0 ps.length cap ps x w (Nat.le_refl _) (by omega) fun j hj => ?_).mono fun e w' h => ⟨h.1, h.2.symm⟩⟩
    have hc := h.cells rfl j (.int .i64 (ps.getD j 0)) (by rw [List.getElem?_map, List.getElem?_eq_getElem hj]; simp [hj])
    have ha : (⟨g, 0, none⟩ : Addr).add j = ⟨g, j, none⟩ := by
      unfold Addr.add
      cases j <;> simp
    rw [ha] at hc
    rw [Nat.zero_add]
    exact hc
theorem contains_any {B : Nat} {vp : Value} {ps : List Int} (x : Int) (w : World) (h : w.ownsRow B 3 1 vp ps.length (ps.map (.int .i64))) (hl : ps.length ≤ 1000) :
    Calls Tryd.prog 58 #[vp, .int .i64 x] w fun e w' => ∃ b, e = .returned (.bool b) ∧ w = w' := by
  obtain ⟨b, hb⟩ := contains_own x w h hl
  exact hb.mono fun e w' h => ⟨b, h⟩
theorem Tryd.infoI : (Tryd.prog.info? 3).map (fun i => (i.zero, i.size, i.bytes)) = some (some (.int .i64 0), 1, 8) := by kernel_rfl
theorem Tryd.infoN : (Tryd.prog.info? 25).map (fun i => (i.zero, i.size, i.bytes)) = some (some (.agg #[.int .i64 0, .int .i64 0, .int .i64 0, .int .i64 0, .int .u32 0]), 5, 40) := by kernel_rfl
/-- The former's block. -/
abbrev FB (w : World) (fb r : Nat) (most : Int) (k0 : Nat) (vi vp : Value) (st : Int) : Prop := w.heap[fb]? = some (.cells #[.pointer (some ⟨r, 0, none⟩), .int .i64 most, .int .u32 (4 * (k0 : Int)), vi, vp, .int .i64 st] 75 (0, 0))
theorem FB.cells {w : World} {fb r : Nat} {most : Int} {k0 : Nat} {vi vp : Value} {st : Int} (h : FB w fb r most k0 vi vp st) :
    w.cell? ⟨fb, 0, none⟩ = some (.pointer (some ⟨r, 0, none⟩)) ∧ w.cell? ⟨fb, 1, none⟩ = some (.int .i64 most) ∧ w.cell? ⟨fb, 2, none⟩ = some (.int .u32 (4 * (k0 : Int))) ∧ w.cell? ⟨fb, 3, none⟩ = some vi ∧ w.cell? ⟨fb, 4, none⟩ = some vp ∧ w.cell? ⟨fb, 5, none⟩ = some (.int .i64 st) ∧
    w.frozen? ⟨fb, 3, none⟩ = false ∧ w.frozen? ⟨fb, 4, none⟩ = false ∧ w.frozen? ⟨fb, 5, none⟩ = false := by
  unfold FB at h
  refine ⟨?_, ?_, ?_, ?_, ?_, ?_, ?_, ?_, ?_⟩ <;> simp [World.cell?, World.frozen?, h]
theorem FW.of {B : Nat} {w0 wr : World} {fb r : Nat} {most : Int} {k0 : Nat} {l : List InsN} {st : Int} {q : Nat} {vi vp : Value} {ps : List Int} (h1 : FB wr fb r most k0 vi vp st) (h2 : wr.ownsRow B 25 5 vi l.length (l.flatMap insC)) (h3 : wr.ownsRow B 3 1 vp ps.length (ps.map (.int .i64))) (h4 : ps.length ≤ q) (hb : Below B w0 wr) (lo : B ≤ fb) (ba : B ≤ wr.heap.size) : FW B w0 wr fb r most k0 l st q :=
  ⟨⟨vi, vp, ps, h1, h2, h3, h4⟩, hb, lo, ba⟩
/-- A page is appended. -/
theorem FW.page {B : Nat} {w0 w w4 : World} {fb r : Nat} {most : Int} {k0 : Nat} {l : List InsN} {st : Int} {q : Nat} {vi vp vp' : Value} {ps : List Int} {p : Int} (h1 : FB w fb r most k0 vi vp st) (h2 : w.ownsRow B 25 5 vi l.length (l.flatMap insC)) (h3 : w.ownsRow B 3 1 vp ps.length (ps.map (.int .i64))) (h4 : ps.length ≤ q) (hb : Below B w0 w) (lo : B ≤ fb) (ba : B ≤ w.heap.size)
    (hown : w4.ownsRow B 3 1 vp' (ps.length + 1) (ps.map (.int .i64) ++ [.int .i64 p])) (hg : w.grownBy w4 vp.ownBlock) : FW B w0 (w4.setCell ⟨fb, 4, none⟩ vp') fb r most k0 l st (q + 1) := by
  have hfb : w4.heap[fb]? = _ := (hg.block fb (Array.getElem?_eq_some_iff.1 h1).1 (own_ne h3 h1 (by decide))).trans h1
  have hi4 : w4.ownsRow B 25 5 vi l.length (l.flatMap insC) := h2.kept hg (by
    rcases h2.2 with ⟨e, _⟩ | ⟨g, cap, cur, e, _, hh, _⟩
    · exact Or.inl (by rw [e]; rfl)
    · refine Or.inr ?_
      rw [e]
      exact own_ne h3 hh (by decide))
  have hz : (w4.setCell ⟨fb, 4, none⟩ vp').heap.size = w4.heap.size := by simp
  have ownT : ∀ {e : TypeId} {size n : Nat} {v : Value} {xs : List Value}, w4.ownsRow B e size v n xs → e ≠ 75 → (w4.setCell ⟨fb, 4, none⟩ vp').ownsRow B e size v n xs := fun {e size n v xs} h hne =>
    own_block h fun g hg2 => setCell_other w4 fb 4 g vp' (fun e2 => own_ne h hfb hne (by rw [hg2, e2]))
  refine FW.of (vi := vi) (vp := vp') (ps := ps ++ [p]) (Joins.block_setCell (i := 4) hfb vp') (ownT hi4 (by decide)) ?_ (by rw [List.length_append]; simp; omega) ((hb.grown hg ba (fun k hk => (h3.lt k hk).1)).setCell lo _) lo (by rw [hz]; have := hg.size; omega)
  have := ownT hown (by decide)
  rw [List.length_append, List.map_append]
  exact this
/-- An instruction is appended. -/
theorem FW.ins {B : Nat} {w0 w w4 : World} {fb r : Nat} {most : Int} {k0 : Nat} {l : List InsN} {st : Int} {q : Nat} {vi vp vi' : Value} {ps : List Int} {i : InsN} (h1 : FB w fb r most k0 vi vp st) (h2 : w.ownsRow B 25 5 vi l.length (l.flatMap insC)) (h3 : w.ownsRow B 3 1 vp ps.length (ps.map (.int .i64))) (h4 : ps.length ≤ q) (hb : Below B w0 w) (lo : B ≤ fb) (ba : B ≤ w.heap.size)
    (hown : w4.ownsRow B 25 5 vi' (l.length + 1) (l.flatMap insC ++ insC i)) (hg : w.grownBy w4 vi.ownBlock) : FW B w0 (w4.setCell ⟨fb, 3, none⟩ vi') fb r most k0 (l ++ [i]) st q := by
  have hfb : w4.heap[fb]? = _ := (hg.block fb (Array.getElem?_eq_some_iff.1 h1).1 (own_ne h2 h1 (by decide))).trans h1
  have hp4 : w4.ownsRow B 3 1 vp ps.length (ps.map (.int .i64)) := h3.kept hg (by
    rcases h3.2 with ⟨e, _⟩ | ⟨g, cap, cur, e, _, hh, _⟩
    · exact Or.inl (by rw [e]; rfl)
    · refine Or.inr ?_
      rw [e]
      exact own_ne h2 hh (by decide))
  have hz : (w4.setCell ⟨fb, 3, none⟩ vi').heap.size = w4.heap.size := by simp
  have ownT : ∀ {e : TypeId} {size n : Nat} {v : Value} {xs : List Value}, w4.ownsRow B e size v n xs → e ≠ 75 → (w4.setCell ⟨fb, 3, none⟩ vi').ownsRow B e size v n xs := fun {e size n v xs} h hne =>
    own_block h fun g hg2 => setCell_other w4 fb 3 g vi' (fun e2 => own_ne h hfb hne (by rw [hg2, e2]))
  refine FW.of (vi := vi') (vp := vp) (ps := ps) (Joins.block_setCell (i := 3) hfb vi') ?_ (ownT hp4 (by decide)) h4 ((hb.grown hg ba (fun k hk => (h2.lt k hk).1)).setCell lo _) lo (by rw [hz]; have := hg.size; omega)
  have := ownT hown (by decide)
  rw [List.length_append, List.flatMap_append]
  simpa using this
/-- One store more. -/
theorem FW.count {B : Nat} {w0 w : World} {fb r : Nat} {most : Int} {k0 : Nat} {l : List InsN} {st : Int} {q : Nat} (h : FW B w0 w fb r most k0 l st q) (v : Int) : FW B w0 (w.setCell ⟨fb, 5, none⟩ (.int .i64 v)) fb r most k0 l v q := by
  obtain ⟨vi, vp, ps, h1, h2, h3, h4⟩ := h.blk
  have ownT : ∀ {e : TypeId} {size n : Nat} {x : Value} {xs : List Value}, w.ownsRow B e size x n xs → e ≠ 75 → (w.setCell ⟨fb, 5, none⟩ (.int .i64 v)).ownsRow B e size x n xs := fun {e size n x xs} h hne =>
    own_block h fun g hg2 => setCell_other w fb 5 g _ (fun e2 => own_ne h h1 hne (by rw [hg2, e2]))
  exact FW.of (Joins.block_setCell (i := 5) h1 _) (ownT h2 (by decide)) (ownT h3 (by decide)) h4 (h.below.setCell h.lo _) h.lo (by simp; exact h.base)
end Go.Proofs.YtnppegldebocmaaDoor
