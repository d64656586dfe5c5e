/- The law HostAll answers true for every place of code, row of instructions, level and place; its arguments read as before. No condition; the errors' variables are tied to the program's text by the card. Conditions: as each theorem states. -/
import Derived.Test.YtlnefmgiiogcmaaGreatDoorRows
import Derived.Test.YtlnefmgiiogcmaaGreatDoorCards
import Derived.Test.YtlnefmgiiogcmaaGreatDoorTie
import Derived.Test.YtlnefmgiiogcmaaGreatDoorQ51
import Derived.ProofKit
import Derived.OpenShut
import Derived.SevenTiedAt
import Derived.Lib.SmallJoins
import Derived.Lay
import Derived.ChangeSlices
import Derived.Carry
set_option linter.unusedVariables false
set_option linter.unusedSimpArgs false
namespace Go.Proofs.YtlnefmgiiogcmaaGreatDoor
open Go.ChangeShapes Go.WideShapes Go.ChangeAt Go.RowKit
namespace Host3C
theorem wrap_shaped {H : Type} {enc : TypeId × Value → H} {a : Assume} {C : Checked} {os : Os} {f : FuncId} {fn : Func} {s : ChangeSpec} {conds : List PathCond} {apart fresh handsOn again : Bool} {X : World → Array Value → Prop}
    (hX : ∀ (w w' : World) (args : Array Value), w.heap = w'.heap → X w args → X w' args)
    (own : ownKnob C.prog.godebug = none) (started : os.Started) (noInit : C.prog.inits.idxOf? f = none) (hfn : C.prog.funcs[f]? = some fn)
    (witness : ∃ (w : World) (tape : Tape) (i : Input), w.os = os ∧ (w.forCall tape i).Shaped C.prog ∧ i.vars = [] ∧ Input.okWide C.prog (w.forCall tape i) .any w.heap.size f i ∧
      ((s.pre enc C.prog fn conds apart (w.forCall tape i).memory i.args ∧ X (w.forCall tape i).memory i.args) ∧ sizedMet enc C.prog fn (OpenSpec.ofChange s) apart (w.forCall tape i).memory i.args) ∧ a.holds C.prog (lone (Frame.enter C.prog f i.args .normal) [] (w.forCall tape i)))
    (contract : ∀ (W : World) (base : Nat) (args : Array Value) (ds gs : List (DataW H)) (before : List MemPlace),
      (∀ (j : Nat) t v, fn.params[j]? = some t → args[j]? = some v → Value.okWide C.prog W .any base t v) →
      DataW.Whole enc C.prog fn.params.toList s.vars apart W args.toList ds gs before → X W args → W.ShapedOpen C.prog →
      Calls C.prog f args W fun e W' => ∃ v, e = .returned v ∧ s.post enc C.prog fn apart fresh handsOn again W args v W') :
    ReturnsInHanded a C os f .any (fun w args => (s.pre enc C.prog fn conds apart w args ∧ X w args) ∧ sizedMet enc C.prog fn (OpenSpec.ofChange s) apart w args) (s.post enc C.prog fn apart fresh handsOn again) := by
  refine returnsInHanded_of_calls own started noInit witness ?_
  intro w tape i _ hsh _ hok hpre hholds
  obtain ⟨_, _, _, fn', hfn', _, _, _, _, hval⟩ := hok
  have e : fn' = fn := Option.some.inj (hfn'.symm.trans hfn)
  subst e
  obtain ⟨⟨⟨ds, gs, before, hw, hc⟩, hx⟩, hz⟩ := hpre
  have hw' := DataW.Whole.of_heap (w' := w.forCall tape i) (by rfl) hw
  refine (contract (w.forCall tape i) w.heap.size i.args ds gs before hval hw' (hX _ _ _ (by rfl) hx) hsh).mono fun e W' ⟨v, he, hp⟩ => ?_
  subst he
  exact ChangeSpec.post_blind hp
theorem door_met (os : Os) (args : Array Value) : laidMetH Tryz.prog Rows.hostAllRow.laid ((World.doorLaid Tryz.prog 400 os).forCall (fun _ _ => 0) ⟨#[], args, []⟩).memory :=
  laidMetH_of_parts3 (fuel := 8) (laidMet_of_run' 8 (by kernel_rfl) (by kernel_rfl)) (by kernel_rfl) (by kernel_rfl)
theorem of_laid {W : World} (h : laidMetH Tryz.prog Rows.hostAllRow.laid W) (hsh : W.ShapedOpen Tryz.prog) : ∃ (ad : Nat → Addr) (mz : Int), Sents W ad ∧ W.cell? ⟨8, 0, none⟩ = some (.int .i64 mz) := by
  rw [MakeChecks.laidMetH_plain _ _ _ (by kernel_rfl)] at h
  have h' : laidMet Tryz.prog (eight.map fun x => (x.1, sentD x.2)) W := h
  obtain ⟨ad, hS⟩ := sents8_of_laid h'
  obtain ⟨mz, hm⟩ := cell_of_shapedOpen_int (g := 8) (zero := #[.int .i64 0]) (t := 3) hsh (of_decide_eq_true (by kernel_rfl)) (by kernel_rfl) rfl (by kernel_rfl) (by kernel_rfl) Tryz.underlying3
  exact ⟨ad, mz, hS, hm⟩
theorem cellsSl : Tryz.prog.cellsOf 27 = 1 := by kernel_rfl
theorem place_words (f : Nat → Int) (sl : Bool) (ct wa : Int) (va : Value) : ((placeL f sl ct wa va).drop 43).take 1 = [va] := by
  unfold placeL
  rw [List.drop_append, List.length_map, List.length_range, List.drop_eq_nil_of_le (by simp)]
  rfl
theorem words_of {H : Type} {enc : TypeId × Value → H} {W : World} {base fuel : Nat} {spare : Nat → Bool} {held : Bool} {f : Nat → Int} {sl : Bool} {ct wa : Int} {va : Value} {x : DataW H × List MemPlace}
    (h : DataW.trod enc Tryz.prog W base spare held fuel 29 (placeL f sl ct wa va) = some x) (hv : va = .slice none 0 0 ∨ ∃ a o n c, va = .slice (some ⟨a, o, none⟩) n c) :
    va = .slice none 0 0 ∨ ∃ b o us cap, va = .slice (some ⟨b, o, none⟩) us.length cap ∧ us.length ≤ cap ∧ WsOK us ∧ ∀ k (h : k < us.length), W.cell? ⟨b, o + k, none⟩ = some (.int .u32 us[k]) := by
  obtain ⟨xs, n, _, _, _, hlen, hg⟩ := DataW.trod_struct Tryz.underlying29 h
  have h1 : DataW.trod enc Tryz.prog W base spare held n 27 (((placeL f sl ct wa va).drop 43).take (Tryz.prog.cellsOf 27)) = xs[1]? := hg 1 _ rfl
  rw [cellsSl, place_words] at h1
  have h3 : xs.length = 3 := hlen.trans rfl
  have hx : ∃ y, xs[1]? = some y := ⟨xs[1]'(by omega), List.getElem?_eq_getElem (by omega)⟩
  obtain ⟨y, hy⟩ := hx
  rw [hy] at h1
  rcases hv with rfl | ⟨a, o, len, c, rfl⟩
  · exact .inl rfl
  · right
    have h2 := h1
    rcases open_ints Tryz.underlying27 Tryz.underlying22 (by kernel_rfl) h2 with ⟨h0, _⟩ | ⟨a2, len2, cap2, zs, e, _, hle, hmax, hall, _, hcell, hwf⟩
    · cases h0
    · cases e
      have hlz : len ≤ zs.length := by rw [hall]; split <;> omega
      refine ⟨a, o, zs.take len, c, by rw [List.length_take, Nat.min_eq_left hlz], by rw [List.length_take]; omega, fun z hz => ?_, fun k hk => ?_⟩
      · obtain ⟨q0, q1⟩ := bounds_u32 (hwf z (List.mem_of_mem_take hz))
        exact ⟨q0, by omega⟩
      · have hk2 : k < len := by rw [List.length_take] at hk; omega
        have := hcell k (by omega)
        rw [Addr.add_mid] at this
        rw [this, List.getElem_take, List.getD_eq_getElem?_getD, List.getElem?_eq_getElem (by omega)]
        rfl
set_option maxRecDepth 100000 in
theorem lifted (os : Os) (started : os.Started) (H : Type) (enc : TypeId × Value → H) :
    ReturnsInHanded {} Tryz.checked os 3 .any (fun w args => (Rows.hostAllSpec.pre enc Tryz.prog Tryz.f3 [] false w args ∧ laidMetH Tryz.prog Rows.hostAllRow.laid w) ∧ sizedMet enc Tryz.prog Tryz.f3 (OpenSpec.ofChange Rows.hostAllSpec) false w args)
      (Rows.hostAllSpec.post enc Tryz.prog Tryz.f3 false true false false) := by
  refine wrap_shaped (C := Tryz.checked) (X := fun w _ => laidMetH Tryz.prog Rows.hostAllRow.laid w) (fun _ _ _ hh h => h.of_heap hh) own started (by kernel_rfl) Tryz.func3
    (ChangeSpec.witness_shaped (enc := enc) (C := Tryz.checked) (os := os) (X := fun w _ => laidMetH Tryz.prog Rows.hostAllRow.laid w) false (World.doorLaid Tryz.prog 400 os) #[.int .u32 0, .slice none 0 0, .int .i64 0, .agg #[.int .u32 0, .int .u32 0, .int .u32 0, .int .u32 0, .int .u32 0, .int .u32 0, .int .u32 0, .int .u32 0, .int .u32 0, .int .u32 0, .int .u32 0, .int .u32 0, .int .u32 0, .int .u32 0, .int .u32 0, .int .u32 0, .int .u32 0, .int .u32 0, .int .u32 0, .int .u32 0, .int .u32 0, .int .u32 0, .int .u32 0, .int .u32 0, .int .u32 0, .int .u32 0, .int .u32 0, .int .u32 0, .int .u32 0, .int .u32 0, .int .u32 0, .int .u32 0, .int .u32 0, .int .u32 0, .int .u32 0, .int .u32 0, .bool false, .int .u32 0, .int .u32 0, .int .u32 0, .int .u32 0, .int .u32 0, .int .i64 0, .slice none 0 0, .int .i64 0]] 8 rfl (World.shaped_of_RefB (by kernel_rfl) (by kernel_rfl)) (by kernel_rfl) (by kernel_rfl) (by kernel_rfl) (door_met os _)) ?_
  intro W base args ds gs before hval0 hW hL hsh
  have hval : ∀ (j : Nat) t v, Tryz.f3.params[j]? = some t → args[j]? = some v → Value.okWide Tryz.prog W .any base t v := hval0
  have hW' := hW
  obtain ⟨p, q, hA0, hV, rfl, hfz, hnd⟩ := hW
  have hA : DataW.TrodAll enc Tryz.prog W 0 (fun _ => true) true Tryz.f3.params.toList args.toList ds p := hA0
  rw [Tryz.params3] at hA hval
  obtain ⟨v0, v1, v3, v2, d0, d1, d3, d2, p0, p1, p3, p2, rfl, rfl, rfl, h0, h1, h3, h2⟩ := trodAll_four hA
  obtain ⟨rfl, rfl⟩ := trodVars_none hV
  obtain ⟨a0, rfl, _, _, w0⟩ := open_int Tryz.underlying22 (hval 0 22 v0 rfl rfl) h0
  obtain ⟨b00, b01⟩ := bounds_u32 w0
  obtain ⟨lev, rfl, _, _, _⟩ := open_int Tryz.underlying3 (hval 2 3 v3 rfl rfl) h3
  have hv1 := hval 1 23 v1 rfl rfl
  simp only [Value.okWide, Tryz.underlying23] at hv1
  have hs1 := cell_slice Tryz.underlying23 hv1
  obtain ⟨f, sl, ct, wa, va, rfl, hf, hva⟩ := open_place (hval 3 29 v2 rfl rfl)
  obtain ⟨fu1, hf1⟩ := h1
  obtain ⟨fu2, hf2⟩ := h2
  obtain ⟨ad, mz, hS, hm⟩ := of_laid hL hsh
  have hw2 := words_of (f := f) (sl := sl) (ct := ct) (wa := wa) (va := va) hf2 hva
  have ha1 : (∃ p cap, v1 = .slice p 0 cap ∧ (p = none → cap = 0)) ∨ ∃ g o cap l, v1 = .slice (some ⟨g, o, none⟩) l.length cap ∧ 0 < l.length ∧ InsAt W g o l ∧ ∀ i ∈ l, i.Fits := by
    rcases hs1 with rfl | ⟨a, o, n, c, rfl⟩
    · exact .inl ⟨none, 0, rfl, fun _ => rfl⟩
    · obtain ⟨L, hL1, hL2, hL3⟩ := open_insrow (g := a) (o := o) (len := n) (cap := c) hf1
      by_cases hn : n = 0
      · exact .inl ⟨_, c, by rw [hn], fun e => by cases e⟩
      · exact .inr ⟨a, o, c, L, by rw [hL1], by omega, hL2, hL3⟩
  refine (hostAll_any (ct := ct) (wa := wa) (sl := sl) (lev := lev) hS hm b00 (by omega) hf ha1 hw2).mono fun e W' ⟨he, hg⟩ => ?_
  subst he
  exact ⟨_, rfl, law_post (tb := 4) (by kernel_rfl) hW' rfl rfl (by kernel_rfl) Tryz.underlying4 rfl hg⟩
theorem row_holds : Rows.HostAllSaid :=
  OpenClaim.holds_of_wide 3 Tryz.f3 rfl rfl rfl rfl rfl rfl rfl ⟨rfl, rfl, rfl, rfl, rfl⟩ rfl rfl rfl rfl rfl (by kernel_rfl) Tryz.func3 (by kernel_rfl)
    (of_decide_eq_true (by kernel_rfl)) (by unfold Func.isWrapper; rw [if_neg (of_decide_eq_false (by kernel_rfl))]; exact ⟨rfl, rfl⟩)
    (fun os started H enc _ => lifted os started H enc)
theorem card_holds : Rows.HostAllCardSaid :=
  Claim7.holds_tied_plain_at .later [] [.sentinel, .sentinel, .sentinel, .sentinel, .sentinel, .sentinel, .sentinel, .sentinel] true (true, "114e2ff4231a6310e884c456d880df7563c5cc7e7d869ae40b49c55a929e36f3") false
    row_holds (fun _ h => by cases h) (by kernel_rfl) (fun _ h => by cases h) hostAll_row_tie rfl ⟨rfl, rfl⟩ (by kernel_rfl) rfl
    (fun f fn hf hfn => by
      obtain rfl : f = 3 := Option.some.inj ((show Tryz.prog.funcNamed "changeling/changelinglaw3.HostAll" = some 3 by kernel_rfl).symm.trans hf) |>.symm
      obtain rfl : fn = Tryz.f3 := (Option.some.inj (Tryz.func3.symm.trans hfn)).symm
      exact ⟨by kernel_rfl, fun j t ht => by
        rw [Tryz.params3] at ht
        have hm : t ∈ [22, 23, 3, 29] := by simpa using Array.mem_of_getElem? ht
        have hall : ([22, 23, 3, 29].all fun u => !Tryz.prog.wantsStandIn u) = true := by kernel_rfl
        exact (show Tryz.prog.wantsStandIn t = false by simpa using List.all_eq_true.1 hall t hm)⟩)
    (by kernel_rfl)
end Host3C
end Go.Proofs.YtlnefmgiiogcmaaGreatDoor
