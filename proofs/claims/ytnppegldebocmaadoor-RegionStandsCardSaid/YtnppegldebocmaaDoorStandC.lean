/- The law RegionStands answers true for every words, place and room; its arguments read as before. No condition; the errors' variables are tied to the program's text by the card. -/
import Derived.Test.YtnppegldebocmaaDoorRows
import Derived.Test.YtnppegldebocmaaDoorCards
import Derived.Test.YtnppegldebocmaaDoorTie
import Derived.Test.YtnppegldebocmaaDoorStands
import Derived.Test.YtnppegldebocmaaDoorSents
import Derived.Test.YtnppegldebocmaaDoorPost
import Derived.Test.YtnppegldebocmaaDoorAgg
import Derived.SevenTiedAt
import Derived.Lib.SmallJoins
import Derived.ChangeSlices
namespace Go.Proofs.YtnppegldebocmaaDoor
open Go.ChangeShapes Go.WideShapes Go.ChangeAt Go.RowKit
namespace StandsC
/-- ram.New of a caller's words. -/
theorem new_any (a : Addr) (len cap : Nat) (zs : List Int) (hl : len ≤ cap) (hz : len ≤ zs.length) (W : World)
    (hc : ∀ i, i < zs.length → W.cell? (a.add i) = some (.int .u32 (zs.getD i 0))) (hw : ∀ n ∈ zs, (Lit.int .u32 n).wf = true) :
    ∃ (ws : Nat → Int) (m : Nat), (∀ k, k < m → 0 ≤ ws k ∧ ws k < 4294967296) ∧ (len ≤ 5000 → ∀ W', Below W.heap.size W W' → Calls Tryd.prog 14 #[.slice (some a) len cap] W' fun e w' => ∃ r bb, e = .returned (.pointer (some ⟨r, 0, none⟩)) ∧ W'.heap.size ≤ r ∧ W'.heap.size ≤ bb ∧ r < w'.heap.size ∧ RamAt w' r bb (memK ws m) ∧ Below W'.heap.size W' w') := by
  by_cases h0 : len = 0
  · subst h0
    exact ⟨fun _ => 0, 0, fun k hk => absurd hk (Nat.not_lt_zero k), fun _ W' _ => new_empty a cap _ W'⟩
  · obtain ⟨b, off, rfl, hcc⟩ := ints_at hc (by omega)
    have hr : ∀ k, k < len → 0 ≤ zs.getD k 0 ∧ zs.getD k 0 < 4294967296 := by
      intro k hk
      have hk2 : k < zs.length := by omega
      have e : zs.getD k 0 = zs[k] := by simp [hk2]
      obtain ⟨q0, q1⟩ := bounds_u32 (hw zs[k] (List.getElem_mem hk2))
      rw [e]
      exact ⟨q0, by omega⟩
    refine ⟨fun k => zs.getD k 0, min len 4096, fun k hk => hr k (by omega), fun h5 W' hb => ?_⟩
    have hb0 := World.block_lt_of_cell? _ _ (hcc 0 (by omega))
    refine new_some b off len cap (min len 4096) (by omega) (by omega) (by omega) (fun k => zs.getD k 0) hr h5 hl W' (Nat.lt_of_lt_of_le hb0 hb.size) fun k hk => (hb.cell (by exact hb0)).trans (hcc k (by omega))
theorem door_met (os : Os) (args : Array Value) : laidMetH Tryd.prog Rows.regionStandsRow.laid ((World.doorLaid Tryd.prog 400 os).forCall (fun _ _ => 0) ⟨#[], args, []⟩).memory :=
  laidMetH_of_parts3 (fuel := 8) (laidMet_of_run' 8 (by kernel_rfl) (by kernel_rfl)) (by kernel_rfl) (by kernel_rfl)
theorem tErrNone : (Tryd.prog.globals[4]?).map (·.type) = some 39 := by kernel_rfl
theorem tErrAlign : (Tryd.prog.globals[2]?).map (·.type) = some 39 := by kernel_rfl
theorem tErrFar : (Tryd.prog.globals[3]?).map (·.type) = some 39 := by kernel_rfl
theorem of_laid {W : World} (h : laidMetH Tryd.prog Rows.regionStandsRow.laid W) : ∃ (vB vK : Value) (tN tA tF : TypeId) (pN pA pF : Value), E5 W vB vK tN tA tF pN pA pF := by
  rw [MakeChecks.laidMetH_plain _ _ _ (by kernel_rfl)] at h
  obtain ⟨a0, s0, hv0, _⟩ := laid_sentinel h gErrBound tErrBound Tryd.underlying39 rowES Tryd.underlying171 Tryd.underlying191 rfl rfl Tryd.underlying9 cellsES cellsStr
  obtain ⟨a2, s2, hv2, _⟩ := laid_sentinel h.tail.tail gErrKind tErrKind Tryd.underlying39 rowES Tryd.underlying171 Tryd.underlying191 rfl rfl Tryd.underlying9 cellsES cellsStr
  obtain ⟨a3, s3, hv3, _⟩ := laid_sentinel h.tail.tail.tail gErrNone tErrNone Tryd.underlying39 rowES Tryd.underlying171 Tryd.underlying191 rfl rfl Tryd.underlying9 cellsES cellsStr
  obtain ⟨a4, s4, hv4, _⟩ := laid_sentinel h.tail.tail.tail.tail gErrAlign tErrAlign Tryd.underlying39 rowES Tryd.underlying171 Tryd.underlying191 rfl rfl Tryd.underlying9 cellsES cellsStr
  obtain ⟨a5, s5, hv5, _⟩ := laid_sentinel h.tail.tail.tail.tail.tail gErrFar tErrFar Tryd.underlying39 rowES Tryd.underlying171 Tryd.underlying191 rfl rfl Tryd.underlying9 cellsES cellsStr
  exact ⟨_, _, _, _, _, _, _, _, ⟨by simpa using World.var?_cell gErrBound hv0 0, by simpa using World.var?_cell gErrKind hv2 0, by simpa using World.var?_cell gErrNone hv3 0, by simpa using World.var?_cell gErrAlign hv4 0, by simpa using World.var?_cell gErrFar hv5 0⟩⟩
set_option maxRecDepth 100000 in
theorem lifted (os : Os) (started : os.Started) (H : Type) (enc : TypeId × Value → H) :
    ReturnsInHanded {} Tryd.checked os 4 .any (fun w args => (Rows.regionStandsSpec.pre enc Tryd.prog Tryd.f4 [] false w args ∧ laidMetH Tryd.prog Rows.regionStandsRow.laid w) ∧ sizedMet enc Tryd.prog Tryd.f4 (OpenSpec.ofChange Rows.regionStandsSpec) false w args)
      (Rows.regionStandsSpec.post enc Tryd.prog Tryd.f4 false true false false) := by
  refine returnsInHanded_of_change_and (C := Tryd.checked) (X := fun w _ => laidMetH Tryd.prog Rows.regionStandsRow.laid w) (fun _ _ _ hh h => h.of_heap hh) own started (by kernel_rfl) Tryd.func4
    (ChangeSpec.witness_shaped (enc := enc) (C := Tryd.checked) (os := os) (X := fun w _ => laidMetH Tryd.prog Rows.regionStandsRow.laid w) false (World.doorLaid Tryd.prog 400 os) #[.slice none 0 0, .int .u32 0, .int .i64 0] 8 rfl (World.shaped_of_RefB (by kernel_rfl) (by kernel_rfl)) (by kernel_rfl) (by kernel_rfl) (by kernel_rfl) (door_met os _)) ?_
  intro W base args ds gs before hval0 hW _ _ hL _
  have hval : ∀ (j : Nat) t v, Tryd.f4.params[j]? = some t → args[j]? = some v → Value.okWide Tryd.prog W .any base t v := hval0
  have hW' := hW
  obtain ⟨p, q, hA0, hV, rfl, hfz, hnd⟩ := hW
  have hA : DataW.TrodAll enc Tryd.prog W 0 (fun _ => true) true Tryd.f4.params.toList args.toList ds p := hA0
  rw [Tryd.params4] at hA hval
  obtain ⟨v0, v1, v2, d0, d1, d2, p0, p1, p2, rfl, rfl, rfl, h0, h1, h2⟩ := trodAll_three hA
  obtain ⟨rfl, rfl⟩ := trodVars_none hV
  obtain ⟨x0, len0, cap0, rfl⟩ := okWide_slice Tryd.underlying31 (hval 0 31 _ rfl rfl)
  obtain ⟨a1, rfl, _, _, w1⟩ := open_int Tryd.underlying22 (hval 1 22 v1 rfl rfl) h1
  obtain ⟨b10, b11⟩ := bounds_u32 w1
  obtain ⟨a2, rfl, _, _, w2⟩ := open_int Tryd.underlying3 (hval 2 3 v2 rfl rfl) h2
  obtain ⟨fu0, hf0⟩ := h0
  have hnew : ∃ (ws : Nat → Int) (m : Nat), (∀ k, k < m → 0 ≤ ws k ∧ ws k < 4294967296) ∧ (len0 ≤ 5000 → ∀ W', Below W.heap.size W W' → Calls Tryd.prog 14 #[.slice x0 len0 cap0] W' fun e w' => ∃ r bb, e = .returned (.pointer (some ⟨r, 0, none⟩)) ∧ W'.heap.size ≤ r ∧ W'.heap.size ≤ bb ∧ r < w'.heap.size ∧ RamAt w' r bb (memK ws m) ∧ Below W'.heap.size W' w') := by
    rcases open_ints Tryd.underlying31 Tryd.underlying22 (by kernel_rfl) hf0 with ⟨hcs, hx⟩ | ⟨a, len, cap, zs, hcs, _, hle, hmax, hall, hx, hcell, hwf⟩
    · simp [Value.cells] at hcs
      obtain ⟨rfl, rfl, rfl⟩ := hcs
      exact ⟨fun _ => 0, 0, fun k hk => absurd hk (Nat.not_lt_zero k), fun _ W' _ => new_none _ W'⟩
    · simp [Value.cells] at hcs
      obtain ⟨rfl, rfl, rfl⟩ := hcs
      simp only [if_true] at hall
      exact new_any a len0 cap0 zs hle (by omega) W hcell hwf
  obtain ⟨ws, m, hws, hnw⟩ := hnew
  obtain ⟨vB, vK, tN, tA, tF, pN, pA, pF, hS⟩ := of_laid hL
  refine (stands_walk x0 len0 cap0 ws m hws a1 b10 (by omega) a2 vB vK tN tA tF pN pA pF W hS hnw).mono fun e W' ⟨he, hg⟩ => ?_
  subst he
  exact ⟨_, rfl, law_post (tb := 4) (by kernel_rfl) hW' rfl rfl (by kernel_rfl) Tryd.underlying4 rfl hg⟩
theorem row_holds : Rows.RegionStandsSaid :=
  OpenClaim.holds_of_wide 4 Tryd.f4 rfl rfl rfl rfl rfl rfl rfl ⟨rfl, rfl, rfl, rfl, rfl⟩ rfl rfl rfl rfl rfl (by kernel_rfl) Tryd.func4 (by kernel_rfl)
    (of_decide_eq_true (by kernel_rfl)) (by unfold Func.isWrapper; rw [if_neg (of_decide_eq_false (by kernel_rfl))]; exact ⟨rfl, rfl⟩)
    (fun os started H enc _ => lifted os started H enc)
theorem card_holds : Rows.RegionStandsCardSaid :=
  Claim7.holds_tied_plain_at .later [] [.sentinel, .sentinel, .sentinel, .sentinel, .sentinel, .sentinel] true (true, "c042752f47e9312a6bc12d9682feee1253b3a85b031609864cd0ffdc5a6f49ab") true
    row_holds (fun _ h => by cases h) (by kernel_rfl) (fun _ h => by cases h) regionStands_row_tie rfl ⟨rfl, rfl⟩ (by kernel_rfl) rfl
    (fun f fn hf hfn => by
      obtain rfl : f = 4 := Option.some.inj ((show Tryd.prog.funcNamed "changeling/changelinglaw2.RegionStands" = some 4 by kernel_rfl).symm.trans hf) |>.symm
      obtain rfl : fn = Tryd.f4 := (Option.some.inj (Tryd.func4.symm.trans hfn)).symm
      exact ⟨by kernel_rfl, fun j t ht => by
        rw [Tryd.params4] at ht
        have hm : t ∈ [31, 22, 3] := by simpa using Array.mem_of_getElem? ht
        have hall : ([31, 22, 3].all fun u => !Tryd.prog.wantsStandIn u) = true := by kernel_rfl
        exact (show Tryd.prog.wantsStandIn t = false by simpa using List.all_eq_true.1 hall t hm)⟩)
    (by kernel_rfl)
end StandsC
end Go.Proofs.YtnppegldebocmaaDoor
