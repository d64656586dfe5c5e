/- The law CodeKinds answers true for every word and every turn; its arguments read as before. No condition; the two errors' variables are tied to the program's text by the card. -/
import Derived.Test.YtnppegldebocmaaDoorRows
import Derived.Test.YtnppegldebocmaaDoorCards
import Derived.Test.YtnppegldebocmaaDoorTie
import Derived.Test.YtnppegldebocmaaDoorKinds
import Derived.Test.YtnppegldebocmaaDoorSent
import Derived.Test.YtnppegldebocmaaDoorPost
import Derived.SevenTiedAt
namespace Go.Proofs.YtnppegldebocmaaDoor
open Go.ChangeShapes Go.WideShapes Go.ChangeAt Go.RowKit
theorem kinds_any (x t : Int) (h0 : 0 ≤ x) (h1 : x < 4294967296) (t0 : -9223372036854775808 ≤ t) (t1 : t ≤ 9223372036854775807) (vK vB : Value) (w : World) (hK : w.cell? ⟨5, 0, none⟩ = some vK) (hB : w.cell? ⟨1, 0, none⟩ = some vB) :
    Calls Tryd.prog 3 #[.int .u32 x, .int .i64 t] w fun e w' => e = .returned (.bool true) ∧ Below w.heap.size w w' := by
  by_cases a : t < 0
  · go_enter Tryd.func3, Tryd.ntmps3
    go_wp2_with fail
    refine (coding_ok vK vB _ hK hB).mono ?_
    rintro e w1 ⟨rfl, hb1⟩
    clear hK hB
    go_wp2
    go_ret
    exact ⟨rfl, hb1⟩
  · by_cases b : 31 < t
    · go_enter Tryd.func3, Tryd.ntmps3
      go_wp2_with fail
      refine (coding_ok vK vB _ hK hB).mono ?_
      rintro e w1 ⟨rfl, hb1⟩
      clear hK hB
      go_wp2
      go_ret
      exact ⟨rfl, hb1⟩
    · obtain ⟨k, rfl⟩ := Int.eq_ofNat_of_zero_le (a := t) (by omega)
      exact kinds_mid x k h0 h1 (by omega) vK vB w hK hB
namespace KindsC
theorem door_met (os : Os) (args : Array Value) : laidMetH Tryd.prog Rows.codeKindsRow.laid ((World.doorLaid Tryd.prog 400 os).forCall (fun _ _ => 0) ⟨#[], args, []⟩).memory :=
  laidMetH_of_parts3 (fuel := 8) (laidMet_of_run' 8 (by kernel_rfl) (by kernel_rfl)) (by kernel_rfl) (by kernel_rfl)
theorem of_laid {W : World} (h : laidMetH Tryd.prog Rows.codeKindsRow.laid W) : ∃ vK vB : Value, W.cell? ⟨5, 0, none⟩ = some vK ∧ W.cell? ⟨1, 0, none⟩ = some vB := by
  rw [MakeChecks.laidMetH_plain _ _ _ (by kernel_rfl)] at h
  obtain ⟨a0, s0, hv0, _⟩ := laid_sentinel h gErrBound tErrBound Tryd.underlying39 rowES Tryd.underlying171 Tryd.underlying191 rfl rfl Tryd.underlying9 cellsES cellsStr
  obtain ⟨a1, s1, hv1, _⟩ := laid_sentinel h.tail gErrKind tErrKind Tryd.underlying39 rowES Tryd.underlying171 Tryd.underlying191 rfl rfl Tryd.underlying9 cellsES cellsStr
  exact ⟨_, _, by simpa using World.var?_cell gErrKind hv1 0, by simpa using World.var?_cell gErrBound hv0 0⟩
set_option maxRecDepth 100000 in
theorem lifted (os : Os) (started : os.Started) (H : Type) (enc : TypeId × Value → H) :
    ReturnsInHanded {} Tryd.checked os 3 .any (fun w args => (Rows.codeKindsSpec.pre enc Tryd.prog Tryd.f3 [] false w args ∧ laidMetH Tryd.prog Rows.codeKindsRow.laid w) ∧ sizedMet enc Tryd.prog Tryd.f3 (OpenSpec.ofChange Rows.codeKindsSpec) false w args)
      (Rows.codeKindsSpec.post enc Tryd.prog Tryd.f3 false true false false) := by
  refine returnsInHanded_of_change_and (C := Tryd.checked) (X := fun w _ => laidMetH Tryd.prog Rows.codeKindsRow.laid w) (fun _ _ _ hh h => h.of_heap hh) own started (by kernel_rfl) Tryd.func3
    (ChangeSpec.witness_shaped (enc := enc) (C := Tryd.checked) (os := os) (X := fun w _ => laidMetH Tryd.prog Rows.codeKindsRow.laid w) false (World.doorLaid Tryd.prog 400 os) #[.int .u32 0, .int .i64 0] 8 rfl (World.shaped_of_RefB (by kernel_rfl) (by kernel_rfl)) (by kernel_rfl) (by kernel_rfl) (by kernel_rfl) (door_met os _)) ?_
  intro W base args ds gs before hval0 hW _ _ hL _
  have hval : ∀ (j : Nat) t v, Tryd.f3.params[j]? = some t → args[j]? = some v → Value.okWide Tryd.prog W .any base t v := hval0
  have hW' := hW
  obtain ⟨p, q, hA0, hV, rfl, hfz, hnd⟩ := hW
  have hA : DataW.TrodAll enc Tryd.prog W 0 (fun _ => true) true Tryd.f3.params.toList args.toList ds p := hA0
  rw [Tryd.params3] at hA hval
  obtain ⟨v0, v1, d0, d1, p0, p1, rfl, rfl, rfl, h0, h1⟩ := trodAll_two hA
  obtain ⟨rfl, rfl⟩ := trodVars_none hV
  obtain ⟨a0, rfl, rfl, rfl, w0⟩ := open_int Tryd.underlying22 (hval 0 22 v0 rfl rfl) h0
  obtain ⟨a1, rfl, rfl, rfl, w1⟩ := open_int Tryd.underlying3 (hval 1 3 v1 rfl rfl) h1
  obtain ⟨vK, vB, hK, hB⟩ := of_laid hL
  clear hA0 hval0
  simp only [List.append_nil] at hW'
  obtain ⟨b0, b1⟩ := bounds_u32 w0
  obtain ⟨c0, c1⟩ := bounds_i64 w1
  refine (kinds_any a0 a1 b0 (by omega) c0 (by omega) vK vB W hK hB).mono fun e W' ⟨he, hg⟩ => ?_
  subst he
  exact ⟨_, rfl, post_of_below (pa := []) (pv := []) hW' (fun _ _ _ => trodAll_mk1 (shut_bool Tryd.underlying4 _)) (fun sp _ => trodAll_mk2 (shut_int Tryd.underlying22 w0) (shut_int Tryd.underlying3 w1)) (fun _ _ => rfl) rfl
    hg (ok_one (by kernel_rfl) rfl (okWide_bool_mk Tryd.underlying4 _))⟩
theorem row_holds : Rows.CodeKindsSaid :=
  OpenClaim.holds_of_wide 3 Tryd.f3 rfl rfl rfl rfl rfl rfl rfl ⟨rfl, rfl, rfl, rfl, rfl⟩ rfl rfl rfl rfl rfl (by kernel_rfl) Tryd.func3 (by kernel_rfl)
    (of_decide_eq_true (by kernel_rfl)) (by unfold Func.isWrapper; rw [if_neg (of_decide_eq_false (by kernel_rfl))]; exact ⟨rfl, rfl⟩)
    (fun os started H enc _ => lifted os started H enc)
theorem card_holds : Rows.CodeKindsCardSaid :=
  Claim7.holds_tied_plain_at .later [] [.sentinel, .sentinel] true (true, "c042752f47e9312a6bc12d9682feee1253b3a85b031609864cd0ffdc5a6f49ab") true
    row_holds (fun _ h => by cases h) (by kernel_rfl) (fun _ h => by cases h) codeKinds_row_tie rfl ⟨rfl, rfl⟩ (by kernel_rfl) rfl
    (fun f fn hf hfn => by
      obtain rfl : f = 3 := Option.some.inj ((show Tryd.prog.funcNamed "changeling/changelinglaw1.CodeKinds" = some 3 by kernel_rfl).symm.trans hf) |>.symm
      obtain rfl : fn = Tryd.f3 := (Option.some.inj (Tryd.func3.symm.trans hfn)).symm
      exact ⟨by kernel_rfl, fun j t ht => by
        rw [Tryd.params3] at ht
        have hm : t ∈ [22, 3] := by simpa using Array.mem_of_getElem? ht
        have hall : ([22, 3].all fun u => !Tryd.prog.wantsStandIn u) = true := by kernel_rfl
        exact (show Tryd.prog.wantsStandIn t = false by simpa using List.all_eq_true.1 hall t hm)⟩)
    (by kernel_rfl)
end KindsC
end Go.Proofs.YtnppegldebocmaaDoor
