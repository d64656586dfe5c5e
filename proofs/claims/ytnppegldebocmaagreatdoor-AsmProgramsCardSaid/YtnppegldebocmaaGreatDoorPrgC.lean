/- The law AsmPrograms answers true for every lines and every base; its arguments read as before. No condition; the variables are tied to the program's text by the card. -/
import Derived.Test.YtnppegldebocmaaGreatDoorRows
import Derived.Test.YtnppegldebocmaaGreatDoorCards
import Derived.Test.YtnppegldebocmaaGreatDoorTie
import Derived.Test.YtnppegldebocmaaGreatDoorDocK
import Derived.ProofKit
import Derived.OpenShut
import Derived.SevenTiedAt
import Derived.Lib.SmallJoins
import Derived.Lib.LaidTab
import Derived.Lay
import Derived.Deep.Strs
import Derived.Carry
namespace Go.Proofs.YtnppegldebocmaaGreatDoor
open Go.ChangeShapes Go.WideShapes Go.ChangeAt Go.RowKit
namespace ProgramsC
theorem vars_take {P : Program} {w : World} : ∀ (L1 L2 : List (String × DataW Unit)) (ps : List MemPlace), DataW.LaidVars P w (L1 ++ L2) ps → ∃ p1 p2, ps = p1 ++ p2 ∧ DataW.LaidVars P w L1 p1
  | [], L2, ps, h => ⟨[], ps, rfl, rfl⟩
  | x :: L1, L2, ps, h => by
    obtain ⟨g, t, cs, fuel, p, q, h1, h2, h3, h4, hq, e⟩ := h
    obtain ⟨q1, q2, e2, hq1⟩ := vars_take L1 L2 q hq
    exact ⟨_, q2, by rw [e, e2, ← List.append_assoc], g, t, cs, fuel, p, q1, h1, h2, h3, h4, hq1, rfl⟩
theorem met_take {P : Program} {w : World} {L1 L2 : List (String × DataW Unit)} (h : laidMet P (L1 ++ L2) w) : laidMet P L1 w := by
  obtain ⟨ps, hv, hnd, hr⟩ := h
  obtain ⟨p1, p2, rfl, h1⟩ := vars_take L1 L2 ps hv
  exact ⟨p1, h1, hnd.sublist (List.sublist_append_left _ _), fun b off hm => hr b off (List.mem_append_left _ hm)⟩
/-- The plain wrap of a row with a condition, the world's shape kept. -/
theorem wrap_shaped {H : Type} {enc : TypeId × Value → H} {a : Assume} {C : Checked} {os : Os} {f : FuncId} {fn : Func} {s : ChangeSpec} {conds : List PathCond} {apart fresh handsOn again : Bool} {X : World → Array Value → Prop}
    (hX : ∀ (w w' : World) (args : Array Value), w.heap = w'.heap → X w args → X w' args)
    (own : ownKnob C.prog.godebug = none) (started : os.Started) (noInit : C.prog.inits.idxOf? f = none) (hfn : C.prog.funcs[f]? = some fn)
    (witness : ∃ (w : World) (tape : Tape) (i : Input), w.os = os ∧ (w.forCall tape i).Shaped C.prog ∧ i.vars = [] ∧ Input.okWide C.prog (w.forCall tape i) .any w.heap.size f i ∧
      ((s.pre enc C.prog fn conds apart (w.forCall tape i).memory i.args ∧ X (w.forCall tape i).memory i.args) ∧ sizedMet enc C.prog fn (OpenSpec.ofChange s) apart (w.forCall tape i).memory i.args) ∧ a.holds C.prog (lone (Frame.enter C.prog f i.args .normal) [] (w.forCall tape i)))
    (contract : ∀ (W : World) (base : Nat) (args : Array Value) (ds gs : List (DataW H)) (before : List MemPlace),
      (∀ (j : Nat) t v, fn.params[j]? = some t → args[j]? = some v → Value.okWide C.prog W .any base t v) →
      DataW.Whole enc C.prog fn.params.toList s.vars apart W args.toList ds gs before → X W args → W.ShapedOpen C.prog →
      Calls C.prog f args W fun e W' => ∃ v, e = .returned v ∧ s.post enc C.prog fn apart fresh handsOn again W args v W') :
    ReturnsInHanded a C os f .any (fun w args => (s.pre enc C.prog fn conds apart w args ∧ X w args) ∧ sizedMet enc C.prog fn (OpenSpec.ofChange s) apart w args) (s.post enc C.prog fn apart fresh handsOn again) := by
  refine returnsInHanded_of_calls own started noInit witness ?_
  intro w tape i _ hsh _ hok hpre hholds
  obtain ⟨_, _, _, fn', hfn', _, _, _, _, hval⟩ := hok
  have e : fn' = fn := Option.some.inj (hfn'.symm.trans hfn)
  subst e
  obtain ⟨⟨⟨ds, gs, before, hw, hc⟩, hx⟩, hz⟩ := hpre
  have hw' := DataW.Whole.of_heap (w' := w.forCall tape i) (by rfl) hw
  refine (contract (w.forCall tape i) w.heap.size i.args ds gs before hval hw' (hX _ _ _ (by rfl) hx) hsh).mono fun e W' ⟨v, he, hp⟩ => ?_
  subst he
  exact ChangeSpec.post_blind hp
/-- The start: the door's run, the great table laid. -/
noncomputable def door (os : Os) : World := World.doorLaid Tryz.prog 400 os
abbrev great : List (String × DataW Unit) := [("unicode/utf8.first", Rows.laid_unicode_utf8_first)]
noncomputable def start (os : Os) : World := (door os).layVars Tryz.prog great
noncomputable def blocks (os : Os) : List Nat := (List.range (door os).heap.size).filter fun k => k != 15
theorem great_is : ((Rows.asmProgramsRow.laid.filter fun x => x.2.handleName?.isNone).filter fun x => ["unicode/utf8.first"].contains x.1) = great := by rfl
theorem start_fits (os : Os) : (door os).layFits Tryz.prog great (blocks os) = true := by kernel_rfl
theorem start_ifaces (os : Os) : (door os).layIfaces Tryz.prog great (start os) = true := by kernel_rfl
theorem others (os : Os) : LaidIn Tryz.prog (start os) ((Rows.asmProgramsRow.laid.filter fun x => x.2.handleName?.isNone).filter fun x => !["unicode/utf8.first"].contains x.1) (blocks os) :=
  LaidIn.of_run (blocks os) 8 (by kernel_rfl) (by kernel_rfl) (by kernel_rfl) (by kernel_rfl)
theorem plain_met (os : Os) : laidMet Tryz.prog (Rows.asmProgramsRow.laid.filter fun x => x.2.handleName?.isNone) (start os) :=
  laidMet_layVars (w0 := door os) ["unicode/utf8.first"] (blocks os) (by rw [great_is]; rfl) (by rw [great_is]; exact start_fits os) (by rw [great_is]; exact start_ifaces os) (others os)
theorem start_met (os : Os) (args : Array Value) : laidMetH Tryz.prog Rows.asmProgramsRow.laid ((start os).forCall (fun _ _ => 0) ⟨#[], args, []⟩).memory :=
  laidMetH_of_parts3 (fuel := 8) ((plain_met os).of_heap (by simp [World.memory, World.forCall, Input.heap])) (by kernel_rfl) (by kernel_rfl)
theorem start_os (os : Os) : (start os).os = os := World.layVars_os _ _ _
theorem gErrRange : Tryz.prog.globalNamed "strconv.ErrRange" = some 14 := by kernel_rfl
theorem gErrSyntax : Tryz.prog.globalNamed "strconv.ErrSyntax" = some 13 := by kernel_rfl
theorem tErrRange : (Tryz.prog.globals[14]?).map (·.type) = some 27 := by kernel_rfl
theorem tErrSyntax : (Tryz.prog.globals[13]?).map (·.type) = some 27 := by kernel_rfl
set_option maxRecDepth 100000 in
theorem of_laid {W : World} (h : laidMetH Tryz.prog Rows.asmProgramsRow.laid W) (hsh : W.ShapedOpen Tryz.prog) : ∃ (ad : Nat → Addr) (mz : Int), PW W ad mz ∧ Sents W ad := by
  have h' : laidMet Tryz.prog ([("math/bits.deBruijn32tab", Rows.laid_math_bits_deBruijn32tab), ("math/bits.deBruijn64tab", Rows.laid_math_bits_deBruijn64tab), ("internal/strconv.uint64pow10", Rows.laid_internal_strconv_uint64pow10), ("unicode/utf8.acceptRanges", Rows.laid_unicode_utf8_acceptRanges)] ++ ((ten.map fun x => (x.1, sentD x.2)) ++ [("strconv.ErrRange", Rows.laid_strconv_ErrRange), ("strconv.ErrSyntax", Rows.laid_strconv_ErrSyntax), ("unicode/utf8.first", Rows.laid_unicode_utf8_first)])) W ∧ handlesMet Tryz.prog [("errors.errorType", .iface "internal/reflectlite.rtype" (.agg [.ptr (.lit (.string [101, 114, 114, 111, 114]))]))] W := h
  have h1 : laidMet Tryz.prog [("internal/strconv.uint64pow10", Rows.laid_internal_strconv_uint64pow10)] W := met_take (L2 := ("unicode/utf8.acceptRanges", Rows.laid_unicode_utf8_acceptRanges) :: ((ten.map fun x => (x.1, sentD x.2)) ++ [("strconv.ErrRange", Rows.laid_strconv_ErrRange), ("strconv.ErrSyntax", Rows.laid_strconv_ErrSyntax), ("unicode/utf8.first", Rows.laid_unicode_utf8_first)])) h'.1.tail.tail
  have hp : Pow W := Lib.tabIs_of_head (g := 12) (k := .u64) (zs := Lib.pow10Tab) (n := 20) (by kernel_rfl) (by kernel_rfl) Tryz.underlying199 Tryz.underlying150 (by kernel_rfl) (by kernel_rfl) h1
  have h2 : laidMet Tryz.prog ((ten.map fun x => (x.1, sentD x.2)) ++ [("strconv.ErrRange", Rows.laid_strconv_ErrRange), ("strconv.ErrSyntax", Rows.laid_strconv_ErrSyntax), ("unicode/utf8.first", Rows.laid_unicode_utf8_first)]) W := h'.1.tail.tail.tail.tail
  have h3 : laidMet Tryz.prog [("strconv.ErrRange", Rows.laid_strconv_ErrRange), ("strconv.ErrSyntax", Rows.laid_strconv_ErrSyntax), ("unicode/utf8.first", Rows.laid_unicode_utf8_first)] W := h2.tail.tail.tail.tail.tail.tail.tail.tail.tail.tail
  obtain ⟨ad, hS⟩ := sents_of_laid (met_take h2) h'.2
  obtain ⟨a0, s0, hv0, _⟩ := laid_sentinel h3 gErrRange tErrRange Tryz.underlying27 rowES Tryz.underlying214 Tryz.underlying216 rfl rfl Tryz.underlying9 cellsES cellsStr
  obtain ⟨a1, s1, hv1, _⟩ := laid_sentinel h3.tail gErrSyntax tErrSyntax Tryz.underlying27 rowES Tryz.underlying214 Tryz.underlying216 rfl rfl Tryz.underlying9 cellsES cellsStr
  obtain ⟨mz, hm⟩ := cell_of_shapedOpen_int (g := 11) (zero := #[.int .i64 0]) (t := 3) hsh (of_decide_eq_true (by kernel_rfl)) (by kernel_rfl) rfl (by kernel_rfl) (by kernel_rfl) Tryz.underlying3
  exact ⟨ad, mz, ⟨hS.few, hp, ⟨_, _, by simpa using World.var?_cell gErrSyntax hv1 0⟩, ⟨_, _, by simpa using World.var?_cell gErrRange hv0 0⟩, hm⟩, hS⟩
set_option maxRecDepth 100000 in
theorem lifted (os : Os) (started : os.Started) (H : Type) (enc : TypeId × Value → H) :
    ReturnsInHanded {} Tryz.checked os 6 .any (fun w args => (Rows.asmProgramsSpec.pre enc Tryz.prog Tryz.f6 [] false w args ∧ laidMetH Tryz.prog Rows.asmProgramsRow.laid w) ∧ sizedMet enc Tryz.prog Tryz.f6 (OpenSpec.ofChange Rows.asmProgramsSpec) false w args)
      (Rows.asmProgramsSpec.post enc Tryz.prog Tryz.f6 false true false false) := by
  refine wrap_shaped (C := Tryz.checked) (X := fun w _ => laidMetH Tryz.prog Rows.asmProgramsRow.laid w) (fun _ _ _ hh h => h.of_heap hh) own started (by kernel_rfl) Tryz.func6
    (ChangeSpec.witness_shaped (enc := enc) (C := Tryz.checked) (os := os) (X := fun w _ => laidMetH Tryz.prog Rows.asmProgramsRow.laid w) false (start os) #[.slice none 0 0, .int .u32 0] 8 (start_os os) (World.shaped_of_ZipB (by kernel_rfl) (by kernel_rfl)) (by kernel_rfl) (by kernel_rfl) (by kernel_rfl) (start_met os _)) ?_
  intro W base args ds gs before hval0 hW hL hsh
  have hval : ∀ (j : Nat) t v, Tryz.f6.params[j]? = some t → args[j]? = some v → Value.okWide Tryz.prog W .any base t v := hval0
  have hW' := hW
  obtain ⟨p, q, hA0, hV, rfl, hfz, hnd⟩ := hW
  have hA : DataW.TrodAll enc Tryz.prog W 0 (fun _ => true) true Tryz.f6.params.toList args.toList ds p := hA0
  rw [Tryz.params6] at hA hval
  obtain ⟨v0, v1, d0, d1, p0, p1, rfl, rfl, rfl, h0, h1⟩ := trodAll_two hA
  obtain ⟨rfl, rfl⟩ := trodVars_none hV
  obtain ⟨x0, len0, cap0, rfl⟩ := okWide_slice Tryz.underlying40 (hval 0 40 _ rfl rfl)
  obtain ⟨a1, rfl, _, _, w1⟩ := open_int Tryz.underlying22 (hval 1 22 v1 rfl rfl) h1
  obtain ⟨b10, b11⟩ := bounds_u32 w1
  obtain ⟨fu0, hf0⟩ := h0
  obtain ⟨ad, mz, hP, hS⟩ := of_laid hL hsh
  have harg : ∃ L : List (List UInt8), ArgS W (.slice x0 len0 cap0) L := by
    rcases Go.Deep.open_strs Tryz.underlying40 Tryz.underlying9 (by kernel_rfl) hf0 with ⟨hcs, hx⟩ | ⟨a, len, cap, m, Sx, hcs, _, hle, hmax, hm, hx, hcell⟩
    · simp [Value.cells] at hcs
      obtain ⟨rfl, rfl, rfl⟩ := hcs
      exact ⟨[], Or.inl ⟨rfl, rfl⟩⟩
    · simp [Value.cells] at hcs
      obtain ⟨rfl, rfl, rfl⟩ := hcs
      simp only [if_true] at hm
      refine ⟨(List.range len0).map fun j => (Sx j).data.toList, Or.inr ⟨a, cap0, by simp, fun j hj => ?_⟩⟩
      have hj2 : j < len0 := by simpa using hj
      have hb : bsl (Sx j).data.toList = Sx j := by cases Sx j; simp [bsl]
      rw [(hcell j (by omega)).1]
      simp [hb]
  obtain ⟨L, hv⟩ := harg
  have hc := programs_any L (.slice x0 len0 cap0) a1 b10 (by omega) ad mz W hP hS hv
  refine hc.mono fun e W' ⟨he, hg⟩ => ?_
  subst he
  exact ⟨_, rfl, law_post (tb := 4) (by kernel_rfl) hW' rfl rfl (by kernel_rfl) Tryz.underlying4 rfl hg⟩
theorem row_holds : Rows.AsmProgramsSaid :=
  OpenClaim.holds_of_wide 6 Tryz.f6 rfl rfl rfl rfl rfl rfl rfl ⟨rfl, rfl, rfl, rfl, rfl⟩ rfl rfl rfl rfl rfl (by kernel_rfl) Tryz.func6 (by kernel_rfl)
    (of_decide_eq_true (by kernel_rfl)) (by unfold Func.isWrapper; rw [if_neg (of_decide_eq_false (by kernel_rfl))]; exact ⟨rfl, rfl⟩)
    (fun os started H enc _ => lifted os started H enc)
theorem card_holds : Rows.AsmProgramsCardSaid :=
  Claim7.holds_tied_plain_at .later [] [.data, .data, .data, .data, .handle, .sentinel, .sentinel, .sentinel, .sentinel, .sentinel, .sentinel, .sentinel, .sentinel, .sentinel, .sentinel, .sentinel, .sentinel, .pinned] true (true, "01076158591821d3588a8e3110c54129fe59df934c10f3e1c71d3752b905261c") true
    row_holds (fun _ h => by cases h) (by kernel_rfl) (fun _ h => by cases h) asmPrograms_row_tie rfl ⟨rfl, rfl⟩ (by kernel_rfl) rfl
    (fun f fn hf hfn => by
      obtain rfl : f = 6 := Option.some.inj ((show Tryz.prog.funcNamed "changeling/changelinglaw1.AsmPrograms" = some 6 by kernel_rfl).symm.trans hf) |>.symm
      obtain rfl : fn = Tryz.f6 := (Option.some.inj (Tryz.func6.symm.trans hfn)).symm
      exact ⟨by kernel_rfl, fun j t ht => by
        rw [Tryz.params6] at ht
        have hm : t ∈ [40, 22] := by simpa using Array.mem_of_getElem? ht
        have hall : ([40, 22].all fun u => !Tryz.prog.wantsStandIn u) = true := by kernel_rfl
        exact (show Tryz.prog.wantsStandIn t = false by simpa using List.all_eq_true.1 hall t hm)⟩)
    (by kernel_rfl)
end ProgramsC
end Go.Proofs.YtnppegldebocmaaGreatDoor
