/- What the condition on the ten errors and on the library's handle gives. Conditions: as each theorem states. -/
import Derived.Test.YtnppegldebocmaaGreatDoorSent
import Derived.Test.YtnppegldebocmaaGreatDoorIs
namespace Go.Proofs.YtnppegldebocmaaGreatDoor
open Go.ChangeShapes Go.WideShapes Go.ChangeAt Go.RowKit
/-- An error as errors.New makes it, read through. -/
def sentD (text : List UInt8) : DataW Unit := .iface "*errors.errorString" (.ptr (.agg [.lit (.string text)]))
set_option maxRecDepth 100000 in
theorem sents_of (W : World) : ∀ (L : List (String × List UInt8)) (ps : List MemPlace), DataW.LaidVars Tryz.prog W (L.map fun x => (x.1, sentD x.2)) ps →
    (∀ b off, MemPlace.cell b off ∈ ps → (∃ c t, W.heap[b]? = some (.cells c t (0, 0))) ∧ ∀ u v, W.cell? ⟨b, off, none⟩ = some (.iface u v) → Value.okWide Tryz.prog W .any 0 u v) →
    (∀ x ∈ L, ∀ g t, Tryz.prog.globalNamed x.1 = some g → (Tryz.prog.globals[g]?).map (·.type) = some t → t = 27) →
    ∃ ls : List Addr, (∀ (k : Nat) (x : String × List UInt8), L[k]? = some x → ∃ a, ls[k]? = some a ∧ W.var? Tryz.prog x.1 = some #[.iface 214 (.pointer (some a))]) ∧ (ls.map fun a => MemPlace.cell a.block a.off).Sublist ps := by
  intro L
  induction L with
  | nil =>
    intro ps h _ _
    exact ⟨[], fun k x hx => by simp at hx, by simp⟩
  | cons x r ih =>
    intro ps h hrows hty
    obtain ⟨g, t, cs, fuel, p, q, hg, ht, hv, hd, hr, e⟩ := h
    obtain rfl := hty x (by simp) g t hg ht
    obtain ⟨ls, h1, h2⟩ := ih q hr (fun b off hm => hrows b off (by rw [e]; simp [hm])) (fun y hy => hty y (by simp [hy]))
    obtain ⟨l⟩ := cs
    have ok : ∀ u v, l = [.iface u v] → Value.okWide Tryz.prog W .any 0 u v := fun u v el => by
      subst el
      exact (hrows g 0 (by rw [e]; simp [MemPlace.row])).2 u v (by simpa using World.var?_cell hg hv 0)
    obtain ⟨a, s, rfl, _, _, _, rfl⟩ := errorString_of_trod Tryz.underlying27 rowES Tryz.underlying214 Tryz.underlying216 rfl rfl Tryz.underlying9 cellsES cellsStr hd ok
    refine ⟨a :: ls, ?_, ?_⟩
    · intro k y hy
      cases k with
      | zero =>
        simp at hy
        subst hy
        exact ⟨a, by simp, hv⟩
      | succ k =>
        simp at hy
        obtain ⟨b, hb1, hb2⟩ := h1 k y hy
        exact ⟨b, by simpa using hb1, hb2⟩
    · rw [e]
      simp only [List.map_cons, MemPlace.row]
      simp
      refine List.Sublist.cons _ ?_
      exact List.Sublist.cons_cons _ h2
def ten : List (String × List UInt8) := [("changeling/api.ErrText", [99, 104, 97, 110, 103, 101, 108, 105, 110, 103, 58, 32, 116, 101, 120, 116]), ("changeling/api.ErrBound", [99, 104, 97, 110, 103, 101, 108, 105, 110, 103, 58, 32, 98, 111, 117, 110, 100]), ("changeling/api.ErrShape", [99, 104, 97, 110, 103, 101, 108, 105, 110, 103, 58, 32, 115, 104, 97, 112, 101]), ("changeling/api.ErrKind", [99, 104, 97, 110, 103, 101, 108, 105, 110, 103, 58, 32, 107, 105, 110, 100]), ("changeling/api.ErrName", [99, 104, 97, 110, 103, 101, 108, 105, 110, 103, 58, 32, 110, 97, 109, 101]), ("changeling/api.ErrNone", [99, 104, 97, 110, 103, 101, 108, 105, 110, 103, 58, 32, 110, 111, 110, 101]), ("changeling/api.ErrExist", [99, 104, 97, 110, 103, 101, 108, 105, 110, 103, 58, 32, 101, 120, 105, 115, 116]), ("changeling/api.ErrFull", [99, 104, 97, 110, 103, 101, 108, 105, 110, 103, 58, 32, 102, 117, 108, 108]), ("changeling/api.ErrAlign", [99, 104, 97, 110, 103, 101, 108, 105, 110, 103, 58, 32, 97, 108, 105, 103, 110]), ("changeling/api.ErrFar", [99, 104, 97, 110, 103, 101, 108, 105, 110, 103, 58, 32, 102, 97, 114])]
theorem gErrText : Tryz.prog.globalNamed "changeling/api.ErrText" = some 1 := by kernel_rfl
theorem gErrShape : Tryz.prog.globalNamed "changeling/api.ErrShape" = some 6 := by kernel_rfl
theorem gErrName : Tryz.prog.globalNamed "changeling/api.ErrName" = some 0 := by kernel_rfl
theorem gErrNone : Tryz.prog.globalNamed "changeling/api.ErrNone" = some 7 := by kernel_rfl
theorem gErrExist : Tryz.prog.globalNamed "changeling/api.ErrExist" = some 8 := by kernel_rfl
theorem gErrFull : Tryz.prog.globalNamed "changeling/api.ErrFull" = some 2 := by kernel_rfl
theorem gErrAlign : Tryz.prog.globalNamed "changeling/api.ErrAlign" = some 3 := by kernel_rfl
theorem gErrFar : Tryz.prog.globalNamed "changeling/api.ErrFar" = some 9 := by kernel_rfl
theorem gErrorType : Tryz.prog.globalNamed "errors.errorType" = some 10 := by kernel_rfl
theorem ten_types : ∀ x ∈ ten, ((Tryz.prog.globalNamed x.1).bind fun g => (Tryz.prog.globals[g]?).map (·.type)) = some 27 := by
  intro x hx
  simp only [ten, List.mem_cons, List.not_mem_nil, or_false] at hx
  rcases hx with rfl | rfl | rfl | rfl | rfl | rfl | rfl | rfl | rfl | rfl <;> kernel_rfl
theorem rt_type : (Tryz.prog.cutTypes.find? (·.1 == "internal/reflectlite.rtype")).map (·.2) = some 167 := by kernel_rfl
theorem one_error : ((List.range 246).filter fun t => Tryz.prog.rowNamed t [101, 114, 114, 111, 114]) = [27] := by kernel_rfl
theorem types_size : Tryz.prog.types.size = 246 := by kernel_rfl
theorem handle_error : typeHandle Tryz.prog 27 = .pointer (some ⟨19, 27, none⟩) := by kernel_rfl
/-- The condition gives the ten errors and the handle. -/
theorem sents_of_laid {W : World} (h : laidMet Tryz.prog (ten.map fun x => (x.1, sentD x.2)) W) (hh : handlesMet Tryz.prog [("errors.errorType", .iface "internal/reflectlite.rtype" (.agg [.ptr (.lit (.string [101, 114, 114, 111, 114]))]))] W) : ∃ ad : Nat → Addr, Sents W ad := by
  obtain ⟨ps, hl, hnd, hrows⟩ := h
  obtain ⟨ls, h1, h2⟩ := sents_of W ten ps hl hrows (fun x hx g t hg ht => by
    have := ten_types x hx
    rw [hg] at this
    simp only [Option.bind_some] at this
    exact Option.some.inj (ht.symm.trans this))
  have hn : (ls.map fun a => MemPlace.cell a.block a.off).Nodup := h2.nodup hnd
  have get : ∀ k x, ten[k]? = some x → W.var? Tryz.prog x.1 = some #[.iface 214 (.pointer (some (ls.getD k default)))] ∧ k < ls.length := fun k x hx => by
    obtain ⟨a, ha, hv⟩ := h1 k x hx
    have : ls.getD k default = a := by simp [ha]
    rw [this]
    exact ⟨hv, (List.getElem?_eq_some_iff.1 ha).1⟩
  have hlen : ∀ k, k < 10 → k < ls.length := fun k hk => by
    have hk' : k < ten.length := hk
    exact (get k ten[k] (List.getElem?_eq_getElem hk')).2
  obtain ⟨name, u, ty, e1, e2, e3, e4, e5⟩ := hh _ (List.mem_singleton.2 rfl)
  have en : name = [101, 114, 114, 111, 114] := (Option.some.inj e1).symm
  subst en
  obtain rfl := Option.some.inj (rt_type.symm.trans e2)
  have hm : ty ∈ (List.range 246).filter fun t => Tryz.prog.rowNamed t [101, 114, 114, 111, 114] := List.mem_filter.2 ⟨List.mem_range.2 (by rw [← types_size]; exact e3), e4⟩
  rw [one_error] at hm
  obtain rfl := List.mem_singleton.1 hm
  rw [handle_error] at e5
  refine ⟨fun k => ls.getD k default, ?_, ?_, ?_, ?_, ?_, ?_, ?_, ?_, ?_, ?_, ?_, ?_, ?_⟩
  · simpa using World.var?_cell gErrText (get 0 _ rfl).1 0
  · simpa using World.var?_cell gErrBound (get 1 _ rfl).1 0
  · simpa using World.var?_cell gErrShape (get 2 _ rfl).1 0
  · simpa using World.var?_cell gErrKind (get 3 _ rfl).1 0
  · simpa using World.var?_cell gErrName (get 4 _ rfl).1 0
  · simpa using World.var?_cell gErrNone (get 5 _ rfl).1 0
  · simpa using World.var?_cell gErrExist (get 6 _ rfl).1 0
  · simpa using World.var?_cell gErrFull (get 7 _ rfl).1 0
  · simpa using World.var?_cell gErrAlign (get 8 _ rfl).1 0
  · simpa using World.var?_cell gErrFar (get 9 _ rfl).1 0
  · intro k hk
    have hk' := hlen k hk
    have hg : ls.getD k default = ls[k] := by simp [hk']
    obtain ⟨c, t, e⟩ := (hrows ls[k].block ls[k].off (h2.subset (List.mem_map.2 ⟨ls[k], List.getElem_mem hk', rfl⟩))).1
    exact ⟨c, t, by rw [hg]; exact e⟩
  · intro i j hi hj hij
    have hi' := hlen i hi
    have hj' := hlen j hj
    have hgi : ls.getD i default = ls[i] := by simp [hi']
    have hgj : ls.getD j default = ls[j] := by simp [hj']
    show ls.getD i default ≠ ls.getD j default
    rw [hgi, hgj]
    intro e
    have pw := List.pairwise_iff_getElem.1 hn
    rcases Nat.lt_or_gt_of_ne hij with h | h
    · exact pw i j (by simpa using hi') (by simpa using hj') h (by simp [e])
    · exact pw j i (by simpa using hj') (by simpa using hi') h (by simp [e])
  · simpa using World.var?_cell gErrorType e5 0
end Go.Proofs.YtnppegldebocmaaGreatDoor
