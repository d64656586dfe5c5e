/- The law AsmApart answers true for every two instructions; its arguments read as before. No condition; the variables are tied to the program's text by the card. -/
import Derived.Test.YtnppegldebocmaaDoorRows
import Derived.Test.YtnppegldebocmaaDoorCards
import Derived.Test.YtnppegldebocmaaDoorTie
import Derived.Test.YtnppegldebocmaaDoorApart
import Derived.Test.YtnppegldebocmaaDoorSent
import Derived.Test.YtnppegldebocmaaDoorPost
import Derived.Test.YtnppegldebocmaaDoorAgg
import Derived.SevenTiedAt
import Derived.Lib.SmallJoins
import Derived.Lib.LaidTab
namespace Go.Proofs.YtnppegldebocmaaDoor
open Go.ChangeShapes Go.WideShapes Go.ChangeAt Go.RowKit
namespace ApartC
theorem door_met (os : Os) (args : Array Value) : laidMetH Tryd.prog Rows.asmApartRow.laid ((World.doorLaid Tryd.prog 400 os).forCall (fun _ _ => 0) ⟨#[], args, []⟩).memory :=
  laidMetH_of_parts3 (fuel := 8) (laidMet_of_run' 8 (by kernel_rfl) (by kernel_rfl)) (by kernel_rfl) (by kernel_rfl)
theorem of_laid {W : World} (h : laidMetH Tryd.prog Rows.asmApartRow.laid W) : ∃ ad : Nat → Addr, Two W ad ∧ Pow W := by
  rw [MakeChecks.laidMetH_plain _ _ _ (by kernel_rfl)] at h
  have h2 := h.tail.tail
  have hp : Pow W := Lib.tabIs_of_head (g := 12) (k := .u64) (zs := Lib.pow10Tab) (n := 20) (by kernel_rfl) (by kernel_rfl) Tryd.underlying166 Tryd.underlying160 (by kernel_rfl) (by kernel_rfl) h2
  obtain ⟨a0, s0, hv0, _⟩ := laid_sentinel h2.tail gErrBound tErrBound Tryd.underlying39 rowES Tryd.underlying171 Tryd.underlying191 rfl rfl Tryd.underlying9 cellsES cellsStr
  obtain ⟨a1, s1, hv1, _⟩ := laid_sentinel h2.tail.tail gErrKind tErrKind Tryd.underlying39 rowES Tryd.underlying171 Tryd.underlying191 rfl rfl Tryd.underlying9 cellsES cellsStr
  exact ⟨fun k => if k = 1 then a0 else a1, ⟨by simpa using World.var?_cell gErrBound hv0 0, by simpa using World.var?_cell gErrKind hv1 0⟩, hp⟩
set_option maxRecDepth 100000 in
theorem lifted (os : Os) (started : os.Started) (H : Type) (enc : TypeId × Value → H) :
    ReturnsInHanded {} Tryd.checked os 7 .any (fun w args => (Rows.asmApartSpec.pre enc Tryd.prog Tryd.f7 [] false w args ∧ laidMetH Tryd.prog Rows.asmApartRow.laid w) ∧ sizedMet enc Tryd.prog Tryd.f7 (OpenSpec.ofChange Rows.asmApartSpec) false w args)
      (Rows.asmApartSpec.post enc Tryd.prog Tryd.f7 false true false false) := by
  refine returnsInHanded_of_change_and (C := Tryd.checked) (X := fun w _ => laidMetH Tryd.prog Rows.asmApartRow.laid w) (fun _ _ _ hh h => h.of_heap hh) own started (by kernel_rfl) Tryd.func7
    (ChangeSpec.witness_shaped (enc := enc) (C := Tryd.checked) (os := os) (X := fun w _ => laidMetH Tryd.prog Rows.asmApartRow.laid w) false (World.doorLaid Tryd.prog 400 os) #[.agg #[.int .i64 0, .int .i64 0, .int .i64 0, .int .i64 0, .int .u32 0], .agg #[.int .i64 0, .int .i64 0, .int .i64 0, .int .i64 0, .int .u32 0]] 8 rfl (World.shaped_of_RefB (by kernel_rfl) (by kernel_rfl)) (by kernel_rfl) (by kernel_rfl) (by kernel_rfl) (door_met os _)) ?_
  intro W base args ds gs before hval0 hW _ _ hL _
  have hval : ∀ (j : Nat) t v, Tryd.f7.params[j]? = some t → args[j]? = some v → Value.okWide Tryd.prog W .any base t v := hval0
  have hW' := hW
  obtain ⟨p, q, hA0, hV, rfl, hfz, hnd⟩ := hW
  have hA : DataW.TrodAll enc Tryd.prog W 0 (fun _ => true) true Tryd.f7.params.toList args.toList ds p := hA0
  rw [Tryd.params7] at hA hval
  obtain ⟨v0, v1, d0, d1, p0, p1, rfl, rfl, rfl, h0, h1⟩ := trodAll_two hA
  obtain ⟨rfl, rfl⟩ := trodVars_none hV
  obtain ⟨i0, rfl, hi0⟩ := open_ins (hval 0 25 v0 rfl rfl) h0
  obtain ⟨i1, rfl, hi1⟩ := open_ins (hval 1 25 v1 rfl rfl) h1
  obtain ⟨ad, hS, hP⟩ := of_laid hL
  refine (apart_any i0 i1 hi0 hi1 ad W hS hP).mono fun e W' ⟨he, hg⟩ => ?_
  subst he
  exact ⟨_, rfl, law_post (tb := 4) (by kernel_rfl) hW' rfl rfl (by kernel_rfl) Tryd.underlying4 rfl hg⟩
theorem row_holds : Rows.AsmApartSaid :=
  OpenClaim.holds_of_wide 7 Tryd.f7 rfl rfl rfl rfl rfl rfl rfl ⟨rfl, rfl, rfl, rfl, rfl⟩ rfl rfl rfl rfl rfl (by kernel_rfl) Tryd.func7 (by kernel_rfl)
    (of_decide_eq_true (by kernel_rfl)) (by unfold Func.isWrapper; rw [if_neg (of_decide_eq_false (by kernel_rfl))]; exact ⟨rfl, rfl⟩)
    (fun os started H enc _ => lifted os started H enc)
theorem card_holds : Rows.AsmApartCardSaid :=
  Claim7.holds_tied_plain_at .later [] [.data, .data, .data, .sentinel, .sentinel] true (true, "c042752f47e9312a6bc12d9682feee1253b3a85b031609864cd0ffdc5a6f49ab") true
    row_holds (fun _ h => by cases h) (by kernel_rfl) (fun _ h => by cases h) asmApart_row_tie rfl ⟨rfl, rfl⟩ (by kernel_rfl) rfl
    (fun f fn hf hfn => by
      obtain rfl : f = 7 := Option.some.inj ((show Tryd.prog.funcNamed "changeling/changelinglaw1.AsmApart" = some 7 by kernel_rfl).symm.trans hf) |>.symm
      obtain rfl : fn = Tryd.f7 := (Option.some.inj (Tryd.func7.symm.trans hfn)).symm
      exact ⟨by kernel_rfl, fun j t ht => by
        rw [Tryd.params7] at ht
        have hm : t ∈ [25, 25] := by simpa using Array.mem_of_getElem? ht
        have hall : ([25, 25].all fun u => !Tryd.prog.wantsStandIn u) = true := by kernel_rfl
        exact (show Tryd.prog.wantsStandIn t = false by simpa using List.all_eq_true.1 hall t hm)⟩)
    (by kernel_rfl)
end ApartC
end Go.Proofs.YtnppegldebocmaaDoor
