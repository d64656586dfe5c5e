/- The walk of code's mask: the bits of a shape's fields. Conditions: the fields are letters of S, T, D, a, i, j. -/
import Derived.Test.YtnppegldebocmaaGreatDoorRows
import Derived.Test.YtnppegldebocmaaGreatDoorNext
import Derived.Test.YtnppegldebocmaaGreatDoorCodeA
import Derived.Handy
import Derived.Lib.Hide
namespace Go.Proofs.YtnppegldebocmaaGreatDoor
open Go.RowKit
def letter (c : UInt8) : Prop := c = 83 ∨ c = 84 ∨ c = 68 ∨ c = 97 ∨ c = 105 ∨ c = 106
def fieldMask (c : UInt8) : Int := if c = 83 then 65011712 else if c = 84 then 2031616 else if c = 68 then 63488 else if c = 97 then 1984 else if c = 105 then 65535 else 67108863
def maskL (l : List UInt8) : Int := l.foldl (fun m c => bits .or .u32 m (fieldMask c)) 0
theorem maskL_snoc (l : List UInt8) (c : UInt8) : maskL (l ++ [c]) = bits .or .u32 (maskL l) (fieldMask c) := by simp [maskL]
set_option maxHeartbeats 400000 in
theorem mask_any (a b c d : Value) (l : List UInt8) (hl : ∀ x ∈ l, letter x) (w : World) :
    Calls Tryz.prog 43 #[.agg #[a, b, c, .string (bsl l), d]] w fun e w' => e = .returned (.int .u32 (maskL l)) ∧ Below w.heap.size w w' := by
  have HL := Lib.hid hl
  clear hl
  go_enter Tryz.func43, Tryz.ntmps43
  go_wp2_with fail
  go_loopw [3] (fun m wr => ∃ j, j ≤ l.length ∧ wr = (w.alloc (.cells #[a, b, c, .string (bsl l), d] 81)).iter (bsl l) j ∧ m = .int .u32 (maskL (l.take j))) (fun _ wr => l.length - wr.iterPos (w.heap.size + 1))
  case atStart => exact ⟨0, Nat.zero_le _, rfl, rfl⟩
  case round =>
    obtain ⟨j, hj, rfl, rfl⟩ := hrel
    by_cases hlt : j < l.length
    · have hc : l[j]? = some l[j] := List.getElem?_eq_getElem hlt
      have hlet : letter l[j] := HL.out _ (List.getElem_mem hlt)
      generalize l[j] = x at hc hlet
      have HS := Lib.hid (take_succ_of l j x hc)
      rcases hlet with rfl | rfl | rfl | rfl | rfl | rfl
      · have hnx : ∀ ty, (Instr.next (.pointer (some ⟨w.heap.size + 1, 0, none⟩)) true ty).run Tryz.prog _ = _ := fun ty => next_lit_k (P := Tryz.prog) (w.alloc (.cells #[a, b, c, .string (bsl l), d] 81)) (w.heap.size + 1) (by simp) l j ty 83 83 hc (by decide) (by decide)
        clear hc
        go_wp2_with (go_at_call 45; refine (place_83 _).mono ?_; rintro e w' ⟨rfl, rfl⟩)
        go_roundw
        case rel => exact ⟨j + 1, by omega, rfl, by rw [HS.out, maskL_snoc]; rfl⟩
        case measure => rw [iterPos_k _ _ (by simp), iterPos_k _ _ (by simp)]; omega
      · have hnx : ∀ ty, (Instr.next (.pointer (some ⟨w.heap.size + 1, 0, none⟩)) true ty).run Tryz.prog _ = _ := fun ty => next_lit_k (P := Tryz.prog) (w.alloc (.cells #[a, b, c, .string (bsl l), d] 81)) (w.heap.size + 1) (by simp) l j ty 84 84 hc (by decide) (by decide)
        clear hc
        go_wp2_with (go_at_call 45; refine (place_84 _).mono ?_; rintro e w' ⟨rfl, rfl⟩)
        go_roundw
        case rel => exact ⟨j + 1, by omega, rfl, by rw [HS.out, maskL_snoc]; rfl⟩
        case measure => rw [iterPos_k _ _ (by simp), iterPos_k _ _ (by simp)]; omega
      · have hnx : ∀ ty, (Instr.next (.pointer (some ⟨w.heap.size + 1, 0, none⟩)) true ty).run Tryz.prog _ = _ := fun ty => next_lit_k (P := Tryz.prog) (w.alloc (.cells #[a, b, c, .string (bsl l), d] 81)) (w.heap.size + 1) (by simp) l j ty 68 68 hc (by decide) (by decide)
        clear hc
        go_wp2_with (go_at_call 45; refine (place_68 _).mono ?_; rintro e w' ⟨rfl, rfl⟩)
        go_roundw
        case rel => exact ⟨j + 1, by omega, rfl, by rw [HS.out, maskL_snoc]; rfl⟩
        case measure => rw [iterPos_k _ _ (by simp), iterPos_k _ _ (by simp)]; omega
      · have hnx : ∀ ty, (Instr.next (.pointer (some ⟨w.heap.size + 1, 0, none⟩)) true ty).run Tryz.prog _ = _ := fun ty => next_lit_k (P := Tryz.prog) (w.alloc (.cells #[a, b, c, .string (bsl l), d] 81)) (w.heap.size + 1) (by simp) l j ty 97 97 hc (by decide) (by decide)
        clear hc
        go_wp2_with (go_at_call 45; refine (place_97 _).mono ?_; rintro e w' ⟨rfl, rfl⟩)
        go_roundw
        case rel => exact ⟨j + 1, by omega, rfl, by rw [HS.out, maskL_snoc]; rfl⟩
        case measure => rw [iterPos_k _ _ (by simp), iterPos_k _ _ (by simp)]; omega
      · have hnx : ∀ ty, (Instr.next (.pointer (some ⟨w.heap.size + 1, 0, none⟩)) true ty).run Tryz.prog _ = _ := fun ty => next_lit_k (P := Tryz.prog) (w.alloc (.cells #[a, b, c, .string (bsl l), d] 81)) (w.heap.size + 1) (by simp) l j ty 105 105 hc (by decide) (by decide)
        clear hc
        go_wp2_with (go_at_call 45; refine (place_105 _).mono ?_; rintro e w' ⟨rfl, rfl⟩)
        go_roundw
        case rel => exact ⟨j + 1, by omega, rfl, by rw [HS.out, maskL_snoc]; rfl⟩
        case measure => rw [iterPos_k _ _ (by simp), iterPos_k _ _ (by simp)]; omega
      · have hnx : ∀ ty, (Instr.next (.pointer (some ⟨w.heap.size + 1, 0, none⟩)) true ty).run Tryz.prog _ = _ := fun ty => next_lit_k (P := Tryz.prog) (w.alloc (.cells #[a, b, c, .string (bsl l), d] 81)) (w.heap.size + 1) (by simp) l j ty 106 106 hc (by decide) (by decide)
        clear hc
        go_wp2_with (go_at_call 45; refine (place_106 _).mono ?_; rintro e w' ⟨rfl, rfl⟩)
        go_roundw
        case rel => exact ⟨j + 1, by omega, rfl, by rw [HS.out, maskL_snoc]; rfl⟩
        case measure => rw [iterPos_k _ _ (by simp), iterPos_k _ _ (by simp)]; omega
    · have hnx : ∀ ty, (Instr.next (.pointer (some ⟨w.heap.size + 1, 0, none⟩)) true ty).run Tryz.prog _ = _ := fun ty => next_fin_k (P := Tryz.prog) (w.alloc (.cells #[a, b, c, .string (bsl l), d] 81)) (w.heap.size + 1) (by simp) l j ty hlt
      go_wp2
      go_ret
      exact ⟨ret_u32 (by rw [List.take_of_length_le (by omega)]), below_iter (by go_grown) (by simp) _ _⟩
end Go.Proofs.YtnppegldebocmaaGreatDoor
