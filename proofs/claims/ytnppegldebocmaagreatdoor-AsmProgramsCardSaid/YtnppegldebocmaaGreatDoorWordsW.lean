/- The walks of asm.words, asm.named. Conditions: as each theorem states. -/
import Derived.Test.YtnppegldebocmaaGreatDoorReadW
import Derived.Test.YtnppegldebocmaaGreatDoorParseS
import Derived.Test.YtnppegldebocmaaGreatDoorText
namespace Go.Proofs.YtnppegldebocmaaGreatDoor
open Go.RowKit
set_option linter.unusedVariables false
/-- A slice of texts. -/
def StrRow (w : World) (v : Value) (L : List (List UInt8)) : Prop :=
  (v = .slice none 0 0 ∧ L = []) ∨ ∃ g, v = .slice (some ⟨g, 0, none⟩) L.length L.length ∧ g < w.heap.size ∧ ∀ j (h : j < L.length), w.cell? ⟨g, j, none⟩ = some (.string (bsl L[j]))
theorem StrRow.below {w w' : World} {v : Value} {L : List (List UInt8)} {B : Nat} (h : StrRow w v L) (hb : Below B w w') (hB : w.heap.size ≤ B) : StrRow w' v L := by
  rcases h with h | ⟨g, h1, h2, h3⟩
  · exact Or.inl h
  · exact Or.inr ⟨g, h1, Nat.lt_of_lt_of_le h2 hb.size, fun j hj => (hb.cell (by exact Nat.lt_of_lt_of_le h2 hB)).trans (h3 j hj)⟩
theorem bsl_mk (b : ByteArray) (l : List UInt8) (h : b.data.toList = l) : b = bsl l := by
  subst h
  apply ByteArray.ext
  simp [bsl]
theorem split_any (s : List UInt8) (hl : s.length ≤ 100) (ad : Nat → Addr) (mz : Int) (w : World) (h : PW w ad mz) :
    Calls Tryz.prog 71 #[.string (bsl s), .string ⟨#[44, 32]⟩] w fun e w' => ∃ v, e = .returned v ∧ StrRow w' v (split2 s) ∧ Below w.heap.size w w' := by
  have hsz := bsl_size s
  refine (Tryz.strings_Split (bsl s) ⟨#[44, 32]⟩ mz w (by omega) h.mx (by decide)).mono ?_
  rintro e w' ⟨rfl, rfl⟩
  obtain ⟨e1, e2⟩ := split_2 s
  have hcnt : Lib.countB (bsl s) ⟨#[44, 32]⟩ + 1 = (split2 s).length := by
    rw [← e2]
    show Lib.count (bsl s).data.toList _ + 1 = _
    rw [bsl_data]
  have hmap : (Lib.splitB ⟨#[44, 32]⟩ 0 (Lib.countB (bsl s) ⟨#[44, 32]⟩) (bsl s)).map (·.data.toList) = split2 s := by
    rw [Lib.splitB_data, bsl_data, ← e1]
    show Lib.splitK [44, 32] 0 (Lib.count (bsl s).data.toList [44, 32]) s = _
    rw [bsl_data]
    rfl
  have hlen : (Lib.splitB ⟨#[44, 32]⟩ 0 (Lib.countB (bsl s) ⟨#[44, 32]⟩) (bsl s)).length = (split2 s).length := by rw [← hmap, List.length_map]
  refine ⟨_, rfl, Or.inr ⟨w.heap.size, by rw [hcnt], by simp, fun j hj => ?_⟩, (Below.refl _ _).alloc (Nat.le_refl _) _⟩
  have hj2 : j < (Lib.splitB ⟨#[44, 32]⟩ 0 (Lib.countB (bsl s) ⟨#[44, 32]⟩) (bsl s)).length := by rw [hlen]; exact hj
  unfold World.cell?
  rw [heap_alloc_new]
  simp only [Option.isSome_none, Bool.false_eq_true, if_false]
  rw [List.getElem?_toArray, List.getElem?_map, List.getElem?_eq_getElem hj2]
  simp only [Option.map_some, Option.some.injEq, Value.string.injEq]
  refine bsl_mk _ _ ?_
  have : ((Lib.splitB ⟨#[44, 32]⟩ 0 (Lib.countB (bsl s) ⟨#[44, 32]⟩) (bsl s)).map (·.data.toList))[j]'(by rw [List.length_map]; exact hj2) = (split2 s)[j] := by
    congr 1
  rw [← this, List.getElem_map]
set_option maxHeartbeats 1000000 in
theorem words_asm (s : List UInt8) (hl : s.length ≤ 100) (ad : Nat → Addr) (mz : Int) (w : World) (h : PW w ad mz) :
    Calls Tryz.prog 34 #[.string (bsl s)] w fun e w' => ∃ v, e = .returned (.tuple #[.string (bsl (cutC 32 s).1), v]) ∧ StrRow w' v (piecesB s) ∧ Below w.heap.size w w' := by
  have HP := Lib.hid h
  have HC := Lib.hid (cut_any s hl 32 ad mz w h)
  obtain ⟨l1, l2⟩ := cutC_len 32 s
  have HS := Lib.hid (fun W (hW : PW W ad mz) => split_any (cutC 32 s).2.1 (by omega) ad mz W hW)
  have HB : Hid (piecesB s = if (cutC 32 s).2.2 = true then split2 (cutC 32 s).2.1 else []) := rfl
  clear h l1 l2
  generalize piecesB s = L at *
  generalize (cutC 32 s).1 = n at *
  generalize (cutC 32 s).2.2 = b at *
  generalize (cutC 32 s).2.1 = r at *
  go_enter Tryz.func34, Tryz.ntmps34
  go_wp2_with fail
  refine HC.out.mono ?_
  rintro e w1 ⟨rfl, hb1⟩
  have HP1 := Lib.hid (HP.out.below hb1)
  have HB1 := Lib.hid hb1
  clear hb1 HC
  cases b
  · have HL : Hid (L = []) := by show _ = _; rw [HB.out]; rfl
    go_wp2
    go_ret2
    exact ⟨_, rfl, Or.inl ⟨rfl, HL.out⟩, HB1.out⟩
  · have HL : Hid (L = split2 r) := by show _ = _; rw [HB.out]; rfl
    go_wp2_with fail
    refine (HS.out w1 HP1.out).mono ?_
    rintro e w2 ⟨v, rfl, hv, hb2⟩
    have HB2 := Lib.hid (HB1.out.trans (hb2.mono HB1.out.size))
    have HV := Lib.hid hv
    clear hv hb2
    go_wp2
    go_ret2
    exact ⟨_, rfl, by rw [HL.out]; exact HV.out, HB2.out⟩
theorem nameN_hit (l : List UInt8) (k : Nat) (h1 : 1 ≤ k) (hk : k < 54) (h : nameB k = l) : nameN l = k := by
  unfold nameN
  have hf : (List.range 54).find? (fun k => decide (1 ≤ k) && nameB k == l) = some k := by
    cases hq : (List.range 54).find? (fun k => decide (1 ≤ k) && nameB k == l) with
    | none =>
      have := List.find?_eq_none.1 hq k (List.mem_range.2 hk)
      simp [h1, h] at this
    | some j =>
      have hj := List.find?_some hq
      have hm := List.mem_range.1 (List.mem_of_find?_eq_some hq)
      simp only [Bool.and_eq_true, decide_eq_true_eq, beq_iff_eq] at hj
      rw [names_apart j hm k hk ⟨hj.1, h1, by rw [hj.2, h]⟩]
  rw [hf]
  rfl
theorem nameN_none (l : List UInt8) (h : ∀ k, 1 ≤ k → k < 54 → nameB k ≠ l) : nameN l = 0 := by
  unfold nameN
  have hf : (List.range 54).find? (fun k => decide (1 ≤ k) && nameB k == l) = none := by
    refine List.find?_eq_none.2 fun k hk => ?_
    simp only [Bool.and_eq_true, decide_eq_true_eq, beq_iff_eq, not_and]
    exact fun h1 => h k h1 (List.mem_range.1 hk)
  rw [hf]
  rfl
theorem nameN_lt (l : List UInt8) : nameN l < 54 := by
  unfold nameN
  cases hq : (List.range 54).find? (fun k => decide (1 ≤ k) && nameB k == l) with
  | none => exact (by decide)
  | some j => exact List.mem_range.1 (List.mem_of_find?_eq_some hq)
set_option maxHeartbeats 1000000 in
theorem named_any (l : List UInt8) (w : World) :
    Calls Tryz.prog 35 #[.string (bsl l)] w fun e w' => e = .returned (.int .i64 (nameN l : Int)) ∧ Below w.heap.size w w' := by
  go_enter Tryz.func35, Tryz.ntmps35
  go_wp2_with fail
  go_loopw [2, 3] (fun _ v wr => ∃ k : Nat, 1 ≤ k ∧ k ≤ 54 ∧ v = .int .i64 (k : Int) ∧ Hid (∀ j, 1 ≤ j → j < k → nameB j ≠ l) ∧ Below w.heap.size w wr) (fun _ v _ => 54 - (intOf v).toNat)
  case atStart => exact ⟨1, Nat.le_refl _, by decide, rfl, fun j h1 h2 => by omega, Below.refl _ _⟩
  case round =>
    obtain ⟨k, hk1, hk, rfl, HN, hb⟩ := hrel
    have HB := Lib.hid hb
    clear hb
    by_cases hlt : k < 54
    · have HM := Lib.hid (fun W => name_any (k : Int) W)
      have hnm : nameS (k : Int) = bsl (nameB k) := by unfold nameS; rw [Int.toNat_natCast]
      rw [hnm] at HM
      by_cases he : nameB k = l
      · have HE := Lib.hid he
        rw [he] at HM
        clear he hnm
        go_wp2_with fail
        refine (HM.out wr).mono ?_
        rintro e w1 ⟨rfl, hb1⟩
        have HB1 := Lib.hid (HB.out.trans (hb1.mono HB.out.size))
        clear hb1
        go_wp2
        go_ret
        exact ⟨by rw [nameN_hit l k hk1 hlt HE.out]; rfl, HB1.out⟩
      · have HE := Lib.hid he
        have hne : ((bsl (nameB k)).toList == (bsl l).toList) = false := by
          rw [bsl_l2, bsl_l2]
          exact beq_eq_false_iff_ne.2 he
        clear he hnm
        generalize bsl (nameB k) = ns at *
        go_wp2_with fail
        refine (HM.out wr).mono ?_
        rintro e w1 ⟨rfl, hb1⟩
        have HB1 := Lib.hid (HB.out.trans (hb1.mono HB.out.size))
        clear hb1
        go_wp2
        go_roundw
        case rel =>
          refine ⟨k + 1, by omega, by omega, by go_num, fun j h1 h2 => ?_, HB1.out⟩
          by_cases e : j = k
          · subst e; exact HE.out
          · exact HN.out j h1 (by omega)
        case measure => simp [intOf]; omega
    · go_wp2
      go_ret
      exact ⟨by rw [nameN_none l (fun j h1 h2 => HN.out j h1 (by omega))]; rfl, HB.out⟩
end Go.Proofs.YtnppegldebocmaaGreatDoor
