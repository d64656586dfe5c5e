/- The plain table of operations: names, numbers, fields, kinds; no program in sight. Small facts on texts that are ranged over: the next letter is told, where the text is of ASCII letters. strings.ContainsRune and strings.ContainsAny by the shelf's contracts, in words of lists. Small laws on rows that a call owns, and on blocks. The walks of code's small functions: fixed, place, lay. The walk of code's mask: the bits of a shape's fields. Plain facts on the table, and the test of a word against an operation's shape; no program in sight. The walks of code.lay: a field's value goes into its cell; and small facts on a block of five cells. Conditions: as each theorem states. -/
import Derived.WalkKit
import Derived.Lib.OthersKept
import Derived.Test.YtlnefmgiiogcmaaGreatDoorShelf
import Derived.Deep.AppendLies
import Derived.Deep.RegionLaw
import Derived.Deep.QuietTactic
import Derived.BigQuiet
import Derived.Deep.Light
import Derived.Laws.OwnMore
import Derived.Lib.SmallJoins
import Derived.Lib.Hide
import Derived.Handy
import Derived.Test.YtlnefmgiiogcmaaGreatDoorRows
import Derived.WalkSpells
import Derived.WalkLawsBesides
set_option linter.unusedVariables false
set_option linter.unusedSimpArgs false
namespace Go.Proofs.YtlnefmgiiogcmaaGreatDoor
def bsl (l : List UInt8) : ByteArray := ⟨l.toArray⟩
def nameB : Nat → List UInt8
  | 1 => [115, 108, 108]
  | 2 => [115, 114, 108]
  | 3 => [115, 114, 97]
  | 4 => [115, 108, 108, 118]
  | 5 => [115, 114, 108, 118]
  | 6 => [115, 114, 97, 118]
  | 7 => [106, 114]
  | 8 => [106, 97, 108, 114]
  | 9 => [115, 121, 115, 99, 97, 108, 108]
  | 10 => [98, 114, 101, 97, 107]
  | 11 => [109, 102, 104, 105]
  | 12 => [109, 116, 104, 105]
  | 13 => [109, 102, 108, 111]
  | 14 => [109, 116, 108, 111]
  | 15 => [109, 117, 108, 116]
  | 16 => [109, 117, 108, 116, 117]
  | 17 => [100, 105, 118]
  | 18 => [100, 105, 118, 117]
  | 19 => [97, 100, 100]
  | 20 => [97, 100, 100, 117]
  | 21 => [115, 117, 98]
  | 22 => [115, 117, 98, 117]
  | 23 => [97, 110, 100]
  | 24 => [111, 114]
  | 25 => [120, 111, 114]
  | 26 => [110, 111, 114]
  | 27 => [115, 108, 116]
  | 28 => [115, 108, 116, 117]
  | 29 => [106]
  | 30 => [106, 97, 108]
  | 31 => [98, 101, 113]
  | 32 => [98, 110, 101]
  | 33 => [98, 108, 101, 122]
  | 34 => [98, 103, 116, 122]
  | 35 => [97, 100, 100, 105]
  | 36 => [97, 100, 100, 105, 117]
  | 37 => [115, 108, 116, 105]
  | 38 => [115, 108, 116, 105, 117]
  | 39 => [97, 110, 100, 105]
  | 40 => [111, 114, 105]
  | 41 => [120, 111, 114, 105]
  | 42 => [108, 117, 105]
  | 43 => [109, 102, 99, 48]
  | 44 => [109, 116, 99, 48]
  | 45 => [101, 114, 101, 116]
  | 46 => [108, 98]
  | 47 => [108, 104]
  | 48 => [108, 119]
  | 49 => [108, 98, 117]
  | 50 => [108, 104, 117]
  | 51 => [115, 98]
  | 52 => [115, 104]
  | 53 => [115, 119]
  | _ => []
def majorN : Nat → Nat
  | 29 => 2
  | 30 => 3
  | 31 => 4
  | 32 => 5
  | 33 => 6
  | 34 => 7
  | 35 => 8
  | 36 => 9
  | 37 => 10
  | 38 => 11
  | 39 => 12
  | 40 => 13
  | 41 => 14
  | 42 => 15
  | 43 => 16
  | 44 => 16
  | 45 => 16
  | 46 => 32
  | 47 => 33
  | 48 => 35
  | 49 => 36
  | 50 => 37
  | 51 => 40
  | 52 => 41
  | 53 => 43
  | _ => 0
def minorN : Nat → Nat
  | 2 => 2
  | 3 => 3
  | 4 => 4
  | 5 => 6
  | 6 => 7
  | 7 => 8
  | 8 => 9
  | 9 => 12
  | 10 => 13
  | 11 => 16
  | 12 => 17
  | 13 => 18
  | 14 => 19
  | 15 => 24
  | 16 => 25
  | 17 => 26
  | 18 => 27
  | 19 => 32
  | 20 => 33
  | 21 => 34
  | 22 => 35
  | 23 => 36
  | 24 => 37
  | 25 => 38
  | 26 => 39
  | 27 => 42
  | 28 => 43
  | 44 => 4
  | 45 => 16
  | _ => 0
def fieldsB : Nat → List UInt8
  | 1 => [84, 68, 97]
  | 2 => [84, 68, 97]
  | 3 => [84, 68, 97]
  | 4 => [83, 84, 68]
  | 5 => [83, 84, 68]
  | 6 => [83, 84, 68]
  | 7 => [83]
  | 8 => [83, 68]
  | 11 => [68]
  | 12 => [83]
  | 13 => [68]
  | 14 => [83]
  | 15 => [83, 84]
  | 16 => [83, 84]
  | 17 => [83, 84]
  | 18 => [83, 84]
  | 19 => [83, 84, 68]
  | 20 => [83, 84, 68]
  | 21 => [83, 84, 68]
  | 22 => [83, 84, 68]
  | 23 => [83, 84, 68]
  | 24 => [83, 84, 68]
  | 25 => [83, 84, 68]
  | 26 => [83, 84, 68]
  | 27 => [83, 84, 68]
  | 28 => [83, 84, 68]
  | 29 => [106]
  | 30 => [106]
  | 31 => [83, 84, 105]
  | 32 => [83, 84, 105]
  | 33 => [83, 105]
  | 34 => [83, 105]
  | 35 => [83, 84, 105]
  | 36 => [83, 84, 105]
  | 37 => [83, 84, 105]
  | 38 => [83, 84, 105]
  | 39 => [83, 84, 105]
  | 40 => [83, 84, 105]
  | 41 => [83, 84, 105]
  | 42 => [84, 105]
  | 43 => [84, 68]
  | 44 => [84, 68]
  | 46 => [83, 84, 105]
  | 47 => [83, 84, 105]
  | 48 => [83, 84, 105]
  | 49 => [83, 84, 105]
  | 50 => [83, 84, 105]
  | 51 => [83, 84, 105]
  | 52 => [83, 84, 105]
  | 53 => [83, 84, 105]
  | _ => []
def kindB : Nat → List UInt8
  | 1 => [115, 117, 109]
  | 2 => [115, 117, 109]
  | 3 => [115, 117, 109]
  | 4 => [115, 117, 109]
  | 5 => [115, 117, 109]
  | 6 => [115, 117, 109]
  | 7 => [98, 114, 97, 110, 99, 104]
  | 8 => [98, 114, 97, 110, 99, 104]
  | 9 => [116, 114, 97, 112]
  | 10 => [116, 114, 97, 112]
  | 11 => [115, 117, 109]
  | 12 => [115, 117, 109]
  | 13 => [115, 117, 109]
  | 14 => [115, 117, 109]
  | 15 => [115, 117, 109]
  | 16 => [115, 117, 109]
  | 17 => [115, 117, 109]
  | 18 => [115, 117, 109]
  | 19 => [115, 117, 109]
  | 20 => [115, 117, 109]
  | 21 => [115, 117, 109]
  | 22 => [115, 117, 109]
  | 23 => [115, 117, 109]
  | 24 => [115, 117, 109]
  | 25 => [115, 117, 109]
  | 26 => [115, 117, 109]
  | 27 => [115, 117, 109]
  | 28 => [115, 117, 109]
  | 29 => [98, 114, 97, 110, 99, 104]
  | 30 => [98, 114, 97, 110, 99, 104]
  | 31 => [98, 114, 97, 110, 99, 104]
  | 32 => [98, 114, 97, 110, 99, 104]
  | 33 => [98, 114, 97, 110, 99, 104]
  | 34 => [98, 114, 97, 110, 99, 104]
  | 35 => [115, 117, 109]
  | 36 => [115, 117, 109]
  | 37 => [115, 117, 109]
  | 38 => [115, 117, 109]
  | 39 => [115, 117, 109]
  | 40 => [115, 117, 109]
  | 41 => [115, 117, 109]
  | 42 => [115, 117, 109]
  | 43 => [116, 114, 97, 112]
  | 44 => [116, 114, 97, 112]
  | 45 => [116, 114, 97, 112]
  | 46 => [108, 111, 97, 100]
  | 47 => [108, 111, 97, 100]
  | 48 => [108, 111, 97, 100]
  | 49 => [108, 111, 97, 100]
  | 50 => [108, 111, 97, 100]
  | 51 => [115, 116, 111, 114, 101]
  | 52 => [115, 116, 111, 114, 101]
  | 53 => [115, 116, 111, 114, 101]
  | _ => []
def nameS (n : Int) : ByteArray := bsl (nameB n.toNat)
def majorZ (n : Int) : Int := (majorN n.toNat : Int)
def minorZ (n : Int) : Int := (minorN n.toNat : Int)
def fieldsS (n : Int) : ByteArray := bsl (fieldsB n.toNat)
def kindS (n : Int) : ByteArray := bsl (kindB n.toNat)
abbrev shapeV (n : Int) : Value := .agg #[.string (nameS n), .int .u32 (majorZ n), .int .u32 (minorZ n), .string (fieldsS n), .string (kindS n)]
theorem nameB_big (k : Nat) (h : 54 ≤ k) : nameB k = [] := by
  match k, h with
  | k + 54, _ => rfl
theorem majorN_big (k : Nat) (h : 54 ≤ k) : majorN k = 0 := by
  match k, h with
  | k + 54, _ => rfl
theorem minorN_big (k : Nat) (h : 54 ≤ k) : minorN k = 0 := by
  match k, h with
  | k + 54, _ => rfl
theorem fieldsB_big (k : Nat) (h : 54 ≤ k) : fieldsB k = [] := by
  match k, h with
  | k + 54, _ => rfl
theorem kindB_big (k : Nat) (h : 54 ≤ k) : kindB k = [] := by
  match k, h with
  | k + 54, _ => rfl
theorem shapeV_big (n : Int) (h : 54 ≤ n ∨ n ≤ 0) : shapeV n = .agg #[.string ⟨#[]⟩, .int .u32 0, .int .u32 0, .string ⟨#[]⟩, .string ⟨#[]⟩] := by
  unfold shapeV nameS majorZ minorZ fieldsS kindS
  rcases h with h | h
  · have hk : 54 ≤ n.toNat := by omega
    rw [nameB_big _ hk, majorN_big _ hk, minorN_big _ hk, fieldsB_big _ hk, kindB_big _ hk]
    rfl
  · have hk : n.toNat = 0 := by omega
    rw [hk]
    rfl
end Go.Proofs.YtlnefmgiiogcmaaGreatDoor
namespace Go.Proofs.YtlnefmgiiogcmaaGreatDoor
open Go.Lib
open Go.RowKit
theorem bsl_size (l : List UInt8) : (bsl l).size = l.length := by simp [bsl, ByteArray.size]
theorem bsl_get (l : List UInt8) (j : Nat) (h : j < (bsl l).size) : (bsl l)[j]'h = l[j]'(by rw [bsl_size] at h; exact h) := by
  have h' : j < l.toArray.size := h
  exact List.getElem_toArray h'
theorem next_lit_at {P : Program} (w : World) (k : Nat) (l : List UInt8) (j : Nat) (ty : TypeId) (c : UInt8) (z : Int) (hk : w.heap[k]? = some (.stringIter (bsl l) j)) (hc : l[j]? = some c) (hz : (c.toNat : Int) = z) (ha : c.toNat < 128) :
    (Instr.next (.pointer (some ⟨k, 0, none⟩)) true ty).run P w = .ok (.tuple #[.bool true, .int .i64 j, .int .i32 z]) (w.iterAt k (bsl l) (j + 1)) := by
  have hj : j < l.length := (List.getElem?_eq_some_iff.1 hc).1
  have he : l[j] = c := (List.getElem?_eq_some_iff.1 hc).2
  have hs : j < (bsl l).size := by rw [bsl_size]; exact hj
  have hg : (bsl l)[j]'hs = c := by rw [bsl_get]; exact he
  rw [Go.Lib.run_next_ascii_at w k (bsl l) j ty hk hs (by rw [hg]; exact ha), hg, hz]
theorem next_fin_at {P : Program} (w : World) (k : Nat) (l : List UInt8) (j : Nat) (ty : TypeId) (hk : w.heap[k]? = some (.stringIter (bsl l) j)) (h : ¬ j < l.length) :
    (Instr.next (.pointer (some ⟨k, 0, none⟩)) true ty).run P w = .ok (.tuple #[.bool false]) w :=
  Go.Lib.run_next_end_at w k (bsl l) j ty hk (by rw [bsl_size]; exact h)
theorem take_succ_of {α : Type} (l : List α) (j : Nat) (c : α) (hc : l[j]? = some c) : l.take (j + 1) = l.take j ++ [c] := by
  have hj : j < l.length := (List.getElem?_eq_some_iff.1 hc).1
  have he : l[j] = c := (List.getElem?_eq_some_iff.1 hc).2
  rw [List.take_succ_eq_append_getElem hj, he]
theorem below_iter {B : Nat} {a w : World} (h : Below B a w) (hB : B ≤ w.heap.size) (s : ByteArray) (pos : Nat) : Below B a (w.iter s pos) := h.alloc hB _
end Go.Proofs.YtlnefmgiiogcmaaGreatDoor
namespace Go.Proofs.YtlnefmgiiogcmaaGreatDoor
open Go.RowKit
theorem ite_at (p : Bool) (n : Int) (hg : -1 ≤ n) : (0 ≤ (if p then (0 : Int) else if n == -1 then -1 else n + 1)) ↔ (p = true ∨ 0 ≤ n) := by
  cases p
  · by_cases e : n = -1
    · subst e
      simp
    · have e' : (n == -1) = false := by simpa using e
      rw [e']
      simp only [Bool.false_eq_true, if_false, false_or]
      omega
  · simp
theorem indexByte_iff (l : List UInt8) (c : UInt8) : (0 ≤ Lib.indexByte l c) ↔ l.contains c = true := by
  induction l with
  | nil => simp [Lib.indexByte]
  | cons x r ih =>
    have e0 : Lib.indexByte (x :: r) c = if x == c then 0 else if Lib.indexByte r c == -1 then -1 else Lib.indexByte r c + 1 := rfl
    rw [e0, ite_at _ _ (Lib.indexByte_ge r c), ih, List.contains_cons, Bool.or_eq_true]
    by_cases h : x = c
    · subst h
      simp
    · have h1 : (x == c) = false := by simpa using h
      have h2 : (c == x) = false := by simpa using fun e => h e.symm
      rw [h1, h2]
theorem indexByte_has (l : List UInt8) (c : UInt8) : decide (0 ≤ Lib.indexByte l c) = l.contains c := by
  rw [Bool.eq_iff_iff, decide_eq_true_eq]
  exact indexByte_iff l c
theorem indexAny_iff (s cs : List UInt8) : (0 ≤ Lib.indexAny s cs) ↔ s.any (cs.contains ·) = true := by
  induction s with
  | nil => simp [Lib.indexAny]
  | cons x r ih =>
    have e0 : Lib.indexAny (x :: r) cs = if cs.contains x then 0 else if Lib.indexAny r cs == -1 then -1 else Lib.indexAny r cs + 1 := rfl
    rw [e0, ite_at _ _ (Lib.indexAny_ge cs r), ih, List.any_cons, Bool.or_eq_true]
theorem indexAny_has (s cs : List UInt8) : Lib.containsAny s cs = s.any (cs.contains ·) := by
  unfold Lib.containsAny
  rw [Bool.eq_iff_iff, decide_eq_true_eq]
  exact indexAny_iff s cs
theorem bsl_toList (l : List UInt8) : (bsl l).data.toList = l := by simp [bsl]
theorem containsRune_l (l : List UInt8) (c : UInt8) (z : Int) (hz : (c.toNat : Int) = z) (hc : c.toNat < 128) (w : World) :
    Calls Tryz.prog 68 #[.string (bsl l), .int .i32 z] w fun e w' => e = .returned (.bool (l.contains c)) ∧ w = w' := by
  subst hz
  refine (Tryz.strings_ContainsRune_ascii (bsl l) (c.toNat : Int) w (by omega) (by omega)).mono ?_
  rintro e w' ⟨he, hw⟩
  refine ⟨?_, hw.symm⟩
  rw [he, bsl_toList, indexByte_has]
  simp
theorem containsRune_yes (l : List UInt8) (c : UInt8) (h : Hid (l.contains c = true)) (z : Int) (hz : (c.toNat : Int) = z) (hc : c.toNat < 128) (w : World) :
    Calls Tryz.prog 68 #[.string (bsl l), .int .i32 z] w fun e w' => e = .returned (.bool true) ∧ w = w' := by
  have t := containsRune_l l c z hz hc w
  rw [h.out] at t
  exact t
theorem containsRune_no (l : List UInt8) (c : UInt8) (h : Hid (l.contains c = false)) (z : Int) (hz : (c.toNat : Int) = z) (hc : c.toNat < 128) (w : World) :
    Calls Tryz.prog 68 #[.string (bsl l), .int .i32 z] w fun e w' => e = .returned (.bool false) ∧ w = w' := by
  have t := containsRune_l l c z hz hc w
  rw [h.out] at t
  exact t
theorem containsAny_l (l cs : List UInt8) (hl : l.length < 4294967281) (hcs : cs.length < 4294967281) (h1 : ∀ x ∈ l, x.toNat < 128) (h2 : ∀ x ∈ cs, x.toNat < 128) (w : World) :
    Calls Tryz.prog 69 #[.string (bsl l), .string (bsl cs)] w fun e w' => e = .returned (.bool (l.any (cs.contains ·))) ∧ Below w.heap.size w w' := by
  refine (Tryz.strings_ContainsAny_laid (bsl l) (bsl cs) w (by rw [bsl_size]; exact hl) (by rw [bsl_size]; exact hcs) ?_ ?_).mono ?_
  · intro j b hb
    rw [bsl_toList] at hb
    exact h1 b (List.mem_of_getElem? hb)
  · intro j b hb
    rw [bsl_toList] at hb
    exact h2 b (List.mem_of_getElem? hb)
  · rintro e w' ⟨he, hw⟩
    refine ⟨?_, hw⟩
    rw [he, bsl_toList, bsl_toList, indexAny_has]
theorem containsAny_is (l cs : List UInt8) (b : Bool) (hb : Hid (l.any (cs.contains ·) = b)) (hl : l.length < 4294967281) (hcs : cs.length < 4294967281) (h1 : ∀ x ∈ l, x.toNat < 128) (h2 : ∀ x ∈ cs, x.toNat < 128) (w : World) :
    Calls Tryz.prog 69 #[.string (bsl l), .string (bsl cs)] w fun e w' => e = .returned (.bool b) ∧ Below w.heap.size w w' := by
  have t := containsAny_l l cs hl hcs h1 h2 w
  rw [hb.out] at t
  exact t
end Go.Proofs.YtlnefmgiiogcmaaGreatDoor
namespace Go.Proofs.YtlnefmgiiogcmaaGreatDoor
open Go.RowKit
theorem own_below {w w' : World} {base : Nat} {e : TypeId} {size : Nat} {v : Value} {n : Nat} {xs : List Value} (h : w.ownsRow base e size v n xs) (hb : Below w.heap.size w w') : w'.ownsRow base e size v n xs := by
  obtain ⟨hl, h | ⟨g, cap, cur, hv, hg, hh, r⟩⟩ := h
  · exact ⟨hl, .inl h⟩
  · have hg2 : g < w.heap.size := (Array.getElem?_eq_some_iff.1 hh).1
    exact ⟨hl, .inr ⟨g, cap, cur, hv, hg, by rw [hb.block g hg2]; exact hh, r⟩⟩
theorem own_ne {w : World} {base : Nat} {e t : TypeId} {size : Nat} {v : Value} {n k : Nat} {xs : List Value} {cs : Array Value} {fr : Nat × Nat} (h : w.ownsRow base e size v n xs) (hk : w.heap[k]? = some (.cells cs t fr)) (hne : e ≠ t) : some k ≠ v.ownBlock := by
  intro hh
  rcases h.2 with ⟨h1, _⟩ | ⟨g, cap, cur, hv, _, hg, _⟩
  · rw [h1] at hh; cases hh
  · rw [hv] at hh
    simp only [Value.ownBlock, Option.some.injEq] at hh
    rw [hh, hg] at hk
    simp only [Option.some.injEq, Obj.cells.injEq] at hk
    exact hne hk.2.1
theorem own_block {w w' : World} {base : Nat} {e : TypeId} {size : Nat} {v : Value} {n : Nat} {xs : List Value} (h : w.ownsRow base e size v n xs) (hb : ∀ g, v.ownBlock = some g → w'.heap[g]? = w.heap[g]?) : w'.ownsRow base e size v n xs := by
  obtain ⟨hl, h | ⟨g, cap, cur, hv, hg, hh, r⟩⟩ := h
  · exact ⟨hl, .inl h⟩
  · exact ⟨hl, .inr ⟨g, cap, cur, hv, hg, (hb g (by rw [hv]; rfl)).trans hh, r⟩⟩
theorem setCell_other (w : World) (b i k : Nat) (v : Value) (h : k ≠ b) : (w.setCell ⟨b, i, none⟩ v).heap[k]? = w.heap[k]? := Below.heap_setCell _ _ _ _ h
theorem blw_drewN {B : Nat} {a w : World} (h : Below B a w) (n : Nat) : Below B a (w.drewN n) := h.trans ⟨rfl, rfl, rfl, Nat.le_refl _, fun _ _ => rfl⟩
theorem addr_add (g j : Nat) : (⟨g, 0, none⟩ : Addr).add j = ⟨g, j, none⟩ := by
  unfold Addr.add
  cases j <;> simp
end Go.Proofs.YtlnefmgiiogcmaaGreatDoor
namespace Go.Proofs.YtlnefmgiiogcmaaGreatDoor
open Go.RowKit
theorem place_83 (w : World) : Calls Tryz.prog 66 #[.int .i32 83] w fun e w' => e = .returned (.tuple #[.int .i64 21, .int .i64 5]) ∧ w = w' := by
  go_enter Tryz.func66, Tryz.ntmps66
  go_wp2
  go_returns
  exact ⟨rfl, rfl⟩
theorem place_84 (w : World) : Calls Tryz.prog 66 #[.int .i32 84] w fun e w' => e = .returned (.tuple #[.int .i64 16, .int .i64 5]) ∧ w = w' := by
  go_enter Tryz.func66, Tryz.ntmps66
  go_wp2
  go_returns
  exact ⟨rfl, rfl⟩
theorem place_68 (w : World) : Calls Tryz.prog 66 #[.int .i32 68] w fun e w' => e = .returned (.tuple #[.int .i64 11, .int .i64 5]) ∧ w = w' := by
  go_enter Tryz.func66, Tryz.ntmps66
  go_wp2
  go_returns
  exact ⟨rfl, rfl⟩
theorem place_97 (w : World) : Calls Tryz.prog 66 #[.int .i32 97] w fun e w' => e = .returned (.tuple #[.int .i64 6, .int .i64 5]) ∧ w = w' := by
  go_enter Tryz.func66, Tryz.ntmps66
  go_wp2
  go_returns
  exact ⟨rfl, rfl⟩
theorem place_105 (w : World) : Calls Tryz.prog 66 #[.int .i32 105] w fun e w' => e = .returned (.tuple #[.int .i64 0, .int .i64 16]) ∧ w = w' := by
  go_enter Tryz.func66, Tryz.ntmps66
  go_wp2
  go_returns
  exact ⟨rfl, rfl⟩
theorem place_106 (w : World) : Calls Tryz.prog 66 #[.int .i32 106] w fun e w' => e = .returned (.tuple #[.int .i64 0, .int .i64 26]) ∧ w = w' := by
  go_enter Tryz.func66, Tryz.ntmps66
  go_wp2
  go_returns
  exact ⟨rfl, rfl⟩
theorem or_zero (n : Int) (h0 : 0 ≤ n) (h1 : n < 64) : bits .or .u32 0 n = n := by
  rw [u32_or 0 n (by omega) (by omega) h0 (by omega)]
  simp
  omega
theorem ret_u32 {a b : Int} (h : a = b) : Ending.returned (.int .u32 a) = .returned (.int .u32 b) := by rw [h]
theorem fixed_0 (a b c : Value) (n : Int) (h0 : 0 ≤ n) (h1 : n < 64) (w : World) : Calls Tryz.prog 65 #[.agg #[a, .int .u32 0, .int .u32 n, b, c]] w fun e w' => e = .returned (.int .u32 (n)) ∧ Below w.heap.size w w' := by
  go_enter Tryz.func65, Tryz.ntmps65
  go_wp2
  go_returns
  exact ⟨ret_u32 (or_zero n h0 h1), by go_grown⟩
theorem fixed_m (a b c : Value) (m n : Int) (h0 : 0 < m) (h1 : m < 64) (h2 : (m == 16) = false) (w : World) : Calls Tryz.prog 65 #[.agg #[a, .int .u32 m, .int .u32 n, b, c]] w fun e w' => e = .returned (.int .u32 (m * 67108864)) ∧ Below w.heap.size w w' := by
  go_enter Tryz.func65, Tryz.ntmps65
  go_wp2
  go_returns
  exact ⟨rfl, by go_grown⟩
theorem fixed_16_0 (a b c : Value) (w : World) : Calls Tryz.prog 65 #[.agg #[a, .int .u32 16, .int .u32 0, b, c]] w fun e w' => e = .returned (.int .u32 (1073741824)) ∧ Below w.heap.size w w' := by
  go_enter Tryz.func65, Tryz.ntmps65
  go_wp2
  go_returns
  exact ⟨by rfl, by go_grown⟩
theorem fixed_16_4 (a b c : Value) (w : World) : Calls Tryz.prog 65 #[.agg #[a, .int .u32 16, .int .u32 4, b, c]] w fun e w' => e = .returned (.int .u32 (1082130432)) ∧ Below w.heap.size w w' := by
  go_enter Tryz.func65, Tryz.ntmps65
  go_wp2
  go_returns
  exact ⟨by rfl, by go_grown⟩
theorem fixed_16_16 (a b c : Value) (w : World) : Calls Tryz.prog 65 #[.agg #[a, .int .u32 16, .int .u32 16, b, c]] w fun e w' => e = .returned (.int .u32 (1107296280)) ∧ Below w.heap.size w w' := by
  go_enter Tryz.func65, Tryz.ntmps65
  go_wp2
  go_returns
  exact ⟨by rfl, by go_grown⟩
end Go.Proofs.YtlnefmgiiogcmaaGreatDoor
namespace Go.Proofs.YtlnefmgiiogcmaaGreatDoor
open Go.RowKit
def letter (c : UInt8) : Prop := c = 83 ∨ c = 84 ∨ c = 68 ∨ c = 97 ∨ c = 105 ∨ c = 106
def fieldMask (c : UInt8) : Int := if c = 83 then 65011712 else if c = 84 then 2031616 else if c = 68 then 63488 else if c = 97 then 1984 else if c = 105 then 65535 else 67108863
def maskL (l : List UInt8) : Int := l.foldl (fun m c => bits .or .u32 m (fieldMask c)) 0
end Go.Proofs.YtlnefmgiiogcmaaGreatDoor
namespace Go.Proofs.YtlnefmgiiogcmaaGreatDoor
open Go.RowKit
instance (c : UInt8) : Decidable (letter c) := by unfold letter; exact inferInstance
theorem fieldsB_letter (k : Nat) : ∀ x ∈ fieldsB k, letter x := by
  by_cases h : k < 54
  · have all : ∀ k, k < 54 → ∀ x ∈ fieldsB k, letter x := by decide
    exact all k h
  · rw [fieldsB_big k (by omega)]
    intro x hx
    cases hx
theorem nums_small (k : Nat) : majorN k < 64 ∧ minorN k < 64 ∧ (majorN k = 16 → minorN k = 0 ∨ minorN k = 4 ∨ minorN k = 16) := by
  by_cases h : k < 54
  · have all : ∀ k, k < 54 → majorN k < 64 ∧ minorN k < 64 ∧ (majorN k = 16 → minorN k = 0 ∨ minorN k = 4 ∨ minorN k = 16) := by decide
    exact all k h
  · rw [majorN_big k (by omega), minorN_big k (by omega)]
    omega
def fixedN (k : Nat) : Nat := if majorN k = 0 then minorN k else if majorN k = 16 then 1073741824 + minorN k * 2097152 + (if minorN k = 16 then 24 else 0) else majorN k * 67108864
def fixedZ (n : Int) : Int := (fixedN n.toNat : Int)
def maskZ (n : Int) : Int := maskL (fieldsB n.toNat)
theorem fixed_any (n : Int) (w : World) : Calls Tryz.prog 65 #[shapeV n] w fun e w' => e = .returned (.int .u32 (fixedZ n)) ∧ Below w.heap.size w w' := by
  obtain ⟨h1, h2, h3⟩ := nums_small n.toNat
  unfold shapeV majorZ minorZ fixedZ fixedN
  by_cases a : majorN n.toNat = 0
  · rw [if_pos a, a]
    exact fixed_0 _ _ _ _ (by omega) (by omega) w
  · rw [if_neg a]
    by_cases b : majorN n.toNat = 16
    · rw [if_pos b, b]
      rcases h3 b with c | c | c
      · rw [c]; exact fixed_16_0 _ _ _ w
      · rw [c]; exact fixed_16_4 _ _ _ w
      · rw [c]; exact fixed_16_16 _ _ _ w
    · rw [if_neg b]
      have e : ((majorN n.toNat * 67108864 : Nat) : Int) = (majorN n.toNat : Int) * 67108864 := by omega
      rw [e]
      exact fixed_m _ _ _ _ _ (by omega) (by omega) (beq_eq_false_iff_ne.2 (by omega)) w
def hitB (w : Int) (n : Int) : Bool := w / 67108864 == majorZ n && bits .andNot .u32 w (maskZ n) == fixedZ n
structure InsN where
  op : Int
  s : Int
  t : Int
  d : Int
  imm : Int
deriving DecidableEq
abbrev insV (i : InsN) : Value := .agg #[.int .i64 i.op, .int .i64 i.s, .int .i64 i.t, .int .i64 i.d, .int .u32 i.imm]
end Go.Proofs.YtlnefmgiiogcmaaGreatDoor
namespace Go.Proofs.YtlnefmgiiogcmaaGreatDoor
open Go.RowKit
def Five (w : World) (b : Nat) (t : TypeId) (a0 a1 a2 a3 a4 : Value) : Prop := w.heap[b]? = some (.cells #[a0, a1, a2, a3, a4] t (0, 0))
theorem Five.cells {w : World} {b : Nat} {t : TypeId} {a0 a1 a2 a3 a4 : Value} (h : Five w b t a0 a1 a2 a3 a4) :
    w.cell? ⟨b, 0, none⟩ = some a0 ∧ w.cell? ⟨b, 1, none⟩ = some a1 ∧ w.cell? ⟨b, 2, none⟩ = some a2 ∧ w.cell? ⟨b, 3, none⟩ = some a3 ∧ w.cell? ⟨b, 4, none⟩ = some a4 := by
  unfold Five at h
  refine ⟨?_, ?_, ?_, ?_, ?_⟩ <;> simp [World.cell?, h]
theorem Five.free {w : World} {b : Nat} {t : TypeId} {a0 a1 a2 a3 a4 : Value} (h : Five w b t a0 a1 a2 a3 a4) :
    w.frozen? ⟨b, 0, none⟩ = false ∧ w.frozen? ⟨b, 1, none⟩ = false ∧ w.frozen? ⟨b, 2, none⟩ = false ∧ w.frozen? ⟨b, 3, none⟩ = false ∧ w.frozen? ⟨b, 4, none⟩ = false := by
  unfold Five at h
  refine ⟨?_, ?_, ?_, ?_, ?_⟩ <;> simp [World.frozen?, h]
theorem Five.lt {w : World} {b : Nat} {t : TypeId} {a0 a1 a2 a3 a4 : Value} (h : Five w b t a0 a1 a2 a3 a4) : b < w.heap.size := by
  unfold Five at h
  exact (Array.getElem?_eq_some_iff.1 h).1
theorem Five.set1 {w : World} {b : Nat} {t : TypeId} {a0 a1 a2 a3 a4 : Value} (h : Five w b t a0 a1 a2 a3 a4) (v : Value) : Five (w.setCell ⟨b, 1, none⟩ v) b t a0 v a2 a3 a4 := Joins.block_setCell h v
theorem Five.set2 {w : World} {b : Nat} {t : TypeId} {a0 a1 a2 a3 a4 : Value} (h : Five w b t a0 a1 a2 a3 a4) (v : Value) : Five (w.setCell ⟨b, 2, none⟩ v) b t a0 a1 v a3 a4 := Joins.block_setCell h v
theorem Five.set3 {w : World} {b : Nat} {t : TypeId} {a0 a1 a2 a3 a4 : Value} (h : Five w b t a0 a1 a2 a3 a4) (v : Value) : Five (w.setCell ⟨b, 3, none⟩ v) b t a0 a1 a2 v a4 := Joins.block_setCell h v
theorem Five.set4 {w : World} {b : Nat} {t : TypeId} {a0 a1 a2 a3 a4 : Value} (h : Five w b t a0 a1 a2 a3 a4) (v : Value) : Five (w.setCell ⟨b, 4, none⟩ v) b t a0 a1 a2 a3 v := Joins.block_setCell h v
theorem Five.of_block {w w' : World} {b : Nat} {t : TypeId} {a0 a1 a2 a3 a4 : Value} (h : Five w b t a0 a1 a2 a3 a4) (e : w'.heap[b]? = w.heap[b]?) : Five w' b t a0 a1 a2 a3 a4 := e.trans h
theorem Five.below {w w' : World} {b B : Nat} {t : TypeId} {a0 a1 a2 a3 a4 : Value} (h : Five w b t a0 a1 a2 a3 a4) (hb : Below B w w') (hB : b < B) : Five w' b t a0 a1 a2 a3 a4 := h.of_block (hb.block b hB)
theorem Five.new (w : World) (a0 a1 a2 a3 a4 : Value) (t : TypeId) : Five (w.alloc (.cells #[a0, a1, a2, a3, a4] t)) w.heap.size t a0 a1 a2 a3 a4 := heap_alloc_new w _
theorem Five.iterAt {w : World} {b k : Nat} {t : TypeId} {a0 a1 a2 a3 a4 : Value} (h : Five w b t a0 a1 a2 a3 a4) (hk : b ≠ k) (s : ByteArray) (p : Nat) : Five (w.iterAt k s p) b t a0 a1 a2 a3 a4 := h.of_block (Go.Lib.iterAt_other w k b s p hk)
theorem iterPos_of {w : World} {k : Nat} {s : ByteArray} {p : Nat} (h : w.heap[k]? = some (.stringIter s p)) : w.iterPos k = p := by simp [World.iterPos, h]
theorem iter_new (w : World) (s : ByteArray) (p k : Nat) (h : k = w.heap.size) : Hid ((w.iter s p).heap[k]? = some (.stringIter s p)) := by
  subst h; exact World.iter_heap w s p
theorem Five.set0 {w : World} {b : Nat} {t : TypeId} {a0 a1 a2 a3 a4 : Value} (h : Five w b t a0 a1 a2 a3 a4) (v : Value) : Five (w.setCell ⟨b, 0, none⟩ v) b t v a1 a2 a3 a4 := Joins.block_setCell h v
abbrev fill5 (w : World) (b : Nat) (v0 v1 v2 v3 v4 : Value) : World := ((((w.setCell ⟨b, 0, none⟩ v0).setCell ⟨b, 1, none⟩ v1).setCell ⟨b, 2, none⟩ v2).setCell ⟨b, 3, none⟩ v3).setCell ⟨b, 4, none⟩ v4
theorem Five.fill {w : World} {b : Nat} {t : TypeId} {a0 a1 a2 a3 a4 : Value} (h : Five w b t a0 a1 a2 a3 a4) (v0 v1 v2 v3 v4 : Value) : Five (fill5 w b v0 v1 v2 v3 v4) b t v0 v1 v2 v3 v4 :=
  ((((h.set0 v0).set1 v1).set2 v2).set3 v3).set4 v4
end Go.Proofs.YtlnefmgiiogcmaaGreatDoor
