/- strings.ContainsRune and strings.ContainsAny by the shelf's contracts, in words of lists. Conditions: the letters are ASCII. -/
import Derived.Test.YtnppegldebocmaaGreatDoorNext
import Derived.Test.YtnppegldebocmaaGreatDoorShelf
namespace Go.Proofs.YtnppegldebocmaaGreatDoor
open Go.RowKit
theorem ite_at (p : Bool) (n : Int) (hg : -1 ≤ n) : (0 ≤ (if p then (0 : Int) else if n == -1 then -1 else n + 1)) ↔ (p = true ∨ 0 ≤ n) := by
  cases p
  · by_cases e : n = -1
    · subst e
      simp
    · have e' : (n == -1) = false := by simpa using e
      rw [e']
      simp only [Bool.false_eq_true, if_false, false_or]
      omega
  · simp
theorem indexByte_iff (l : List UInt8) (c : UInt8) : (0 ≤ Lib.indexByte l c) ↔ l.contains c = true := by
  induction l with
  | nil => simp [Lib.indexByte]
  | cons x r ih =>
    have e0 : Lib.indexByte (x :: r) c = if x == c then 0 else if Lib.indexByte r c == -1 then -1 else Lib.indexByte r c + 1 := rfl
    rw [e0, ite_at _ _ (Lib.indexByte_ge r c), ih, List.contains_cons, Bool.or_eq_true]
    by_cases h : x = c
    · subst h
      simp
    · have h1 : (x == c) = false := by simpa using h
      have h2 : (c == x) = false := by simpa using fun e => h e.symm
      rw [h1, h2]
theorem indexByte_has (l : List UInt8) (c : UInt8) : decide (0 ≤ Lib.indexByte l c) = l.contains c := by
  rw [Bool.eq_iff_iff, decide_eq_true_eq]
  exact indexByte_iff l c
theorem indexAny_iff (s cs : List UInt8) : (0 ≤ Lib.indexAny s cs) ↔ s.any (cs.contains ·) = true := by
  induction s with
  | nil => simp [Lib.indexAny]
  | cons x r ih =>
    have e0 : Lib.indexAny (x :: r) cs = if cs.contains x then 0 else if Lib.indexAny r cs == -1 then -1 else Lib.indexAny r cs + 1 := rfl
    rw [e0, ite_at _ _ (Lib.indexAny_ge cs r), ih, List.any_cons, Bool.or_eq_true]
theorem indexAny_has (s cs : List UInt8) : Lib.containsAny s cs = s.any (cs.contains ·) := by
  unfold Lib.containsAny
  rw [Bool.eq_iff_iff, decide_eq_true_eq]
  exact indexAny_iff s cs
theorem bsl_toList (l : List UInt8) : (bsl l).data.toList = l := by simp [bsl]
theorem containsRune_l (l : List UInt8) (c : UInt8) (z : Int) (hz : (c.toNat : Int) = z) (hc : c.toNat < 128) (w : World) :
    Calls Tryz.prog 59 #[.string (bsl l), .int .i32 z] w fun e w' => e = .returned (.bool (l.contains c)) ∧ w = w' := by
  subst hz
  refine (Tryz.strings_ContainsRune_ascii (bsl l) (c.toNat : Int) w (by omega) (by omega)).mono ?_
  rintro e w' ⟨he, hw⟩
  refine ⟨?_, hw.symm⟩
  rw [he, bsl_toList, indexByte_has]
  simp
theorem containsRune_yes (l : List UInt8) (c : UInt8) (h : Hid (l.contains c = true)) (z : Int) (hz : (c.toNat : Int) = z) (hc : c.toNat < 128) (w : World) :
    Calls Tryz.prog 59 #[.string (bsl l), .int .i32 z] w fun e w' => e = .returned (.bool true) ∧ w = w' := by
  have t := containsRune_l l c z hz hc w
  rw [h.out] at t
  exact t
theorem containsRune_no (l : List UInt8) (c : UInt8) (h : Hid (l.contains c = false)) (z : Int) (hz : (c.toNat : Int) = z) (hc : c.toNat < 128) (w : World) :
    Calls Tryz.prog 59 #[.string (bsl l), .int .i32 z] w fun e w' => e = .returned (.bool false) ∧ w = w' := by
  have t := containsRune_l l c z hz hc w
  rw [h.out] at t
  exact t
theorem containsAny_l (l cs : List UInt8) (hl : l.length < 4294967281) (hcs : cs.length < 4294967281) (h1 : ∀ x ∈ l, x.toNat < 128) (h2 : ∀ x ∈ cs, x.toNat < 128) (w : World) :
    Calls Tryz.prog 60 #[.string (bsl l), .string (bsl cs)] w fun e w' => e = .returned (.bool (l.any (cs.contains ·))) ∧ Below w.heap.size w w' := by
  refine (Tryz.strings_ContainsAny_laid (bsl l) (bsl cs) w (by rw [bsl_size]; exact hl) (by rw [bsl_size]; exact hcs) ?_ ?_).mono ?_
  · intro j b hb
    rw [bsl_toList] at hb
    exact h1 b (List.mem_of_getElem? hb)
  · intro j b hb
    rw [bsl_toList] at hb
    exact h2 b (List.mem_of_getElem? hb)
  · rintro e w' ⟨he, hw⟩
    refine ⟨?_, hw⟩
    rw [he, bsl_toList, bsl_toList, indexAny_has]
theorem containsAny_is (l cs : List UInt8) (b : Bool) (hb : Hid (l.any (cs.contains ·) = b)) (hl : l.length < 4294967281) (hcs : cs.length < 4294967281) (h1 : ∀ x ∈ l, x.toNat < 128) (h2 : ∀ x ∈ cs, x.toNat < 128) (w : World) :
    Calls Tryz.prog 60 #[.string (bsl l), .string (bsl cs)] w fun e w' => e = .returned (.bool b) ∧ Below w.heap.size w w' := by
  have t := containsAny_l l cs hl hcs h1 h2 w
  rw [hb.out] at t
  exact t
end Go.Proofs.YtnppegldebocmaaGreatDoor
