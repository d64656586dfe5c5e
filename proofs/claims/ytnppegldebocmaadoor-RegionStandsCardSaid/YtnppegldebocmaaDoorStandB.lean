/- The closed fact of the law RegionStands: formed. Conditions: as each theorem states. -/
import Derived.Test.YtnppegldebocmaaDoorStandA
namespace Go.Proofs.YtnppegldebocmaaDoor
open Go.RowKit
set_option linter.unusedVariables false
/-- The five errors. -/
structure E5 (w : World) (vB vK : Value) (tN tA tF : TypeId) (pN pA pF : Value) : Prop where
  b : w.cell? ⟨1, 0, none⟩ = some vB
  k : w.cell? ⟨5, 0, none⟩ = some vK
  n : w.cell? ⟨4, 0, none⟩ = some (.iface tN pN)
  a : w.cell? ⟨2, 0, none⟩ = some (.iface tA pA)
  f : w.cell? ⟨3, 0, none⟩ = some (.iface tF pF)
theorem E5.below {w w' : World} {vB vK : Value} {tN tA tF : TypeId} {pN pA pF : Value} (h : E5 w vB vK tN tA tF pN pA pF) (hb : Below w.heap.size w w') : E5 w' vB vK tN tA tF pN pA pF :=
  ⟨(hb.cell (World.block_lt_of_cell? _ _ h.b)).trans h.b, (hb.cell (World.block_lt_of_cell? _ _ h.k)).trans h.k, (hb.cell (World.block_lt_of_cell? _ _ h.n)).trans h.n, (hb.cell (World.block_lt_of_cell? _ _ h.a)).trans h.a, (hb.cell (World.block_lt_of_cell? _ _ h.f)).trans h.f⟩
def twoW (k : Nat) : Int := if k = 0 then 604045319 else 12
theorem two_range (k : Nat) : 0 ≤ twoW k ∧ twoW k < 4294967296 := by unfold twoW; split <;> decide
theorem dec_two0 : kindOfB (decZ 604045319).op = [115, 117, 109] := by kernel_rfl
theorem dec_two1 : kindOfB (decZ 12).op = [116, 114, 97, 112] := by kernel_rfl
theorem end_two : endN (memW twoW 2) 0 5 30 0 = 1 := by
  have h0 : slotI (memW twoW 2) 0 = decZ 604045319 := rfl
  have h1 : slotI (memW twoW 2) 1 = decZ 12 := rfl
  have e : endN (memW twoW 2) 0 5 (29 + 1) 0 = endN (memW twoW 2) 0 5 29 1 := by
    rw [endN, if_pos ⟨by decide, by rw [Nat.zero_add, h0]; simp [goodS, dec_two0, trapL, storeL]⟩, if_neg (by rw [Nat.zero_add, h0, dec_two0]; decide)]
  rw [show (30 : Nat) = 29 + 1 from rfl, e]
  exact endN_stop _ _ _ _ _ (by rw [show 0 + 1 = 1 from rfl, h1]; simp [goodS, dec_two1, trapL])
set_option maxHeartbeats 2000000 in
theorem formed_ok (vB vK : Value) (tN tA tF : TypeId) (pN pA pF : Value) (w : World) (hS : E5 w vB vK tN tA tF pN pA pF) :
    Calls Tryd.prog 13 #[] w fun e w' => e = .returned (.bool true) ∧ Below w.heap.size w w' := by
  have HS := Lib.hid hS
  clear hS
  go_enter Tryd.func13, Tryd.ntmps13
  go_wp2_with fail
  have hal := (Below.refl w.heap.size w).alloc (Nat.le_refl _) (.cells #[.int .u32 604045319, .int .u32 12] 22)
  have hE1 := HS.out.below hal
  have HAL := Lib.hid hal
  refine (new_some w.heap.size 0 2 2 2 (by decide) (Nat.le_refl _) (by decide) twoW (fun k _ => two_range k) (by decide) (Nat.le_refl _) _ (by simp) ?hc).mono ?_
  case hc =>
    intro k hk
    match k, hk with
    | 0, _ => unfold World.cell?; rw [heap_alloc_new]; rfl
    | 1, _ => unfold World.cell?; rw [heap_alloc_new]; rfl
  rintro e w2 ⟨r, bb, rfl, hr1, hb1, hr2, hR, hB2⟩
  have hR2 := ramW_new hR (fun k _ => two_range k)
  have hE2 := hE1.below hB2
  have HB2 := Lib.hid (HAL.out.trans (hB2.mono HAL.out.size))
  have hF := form_some r bb (memW twoW 2) 5 ⟨by decide, by decide⟩ 0 (by decide) tF pF _ w2 hR2 hE2.f hE2.n
  rw [end_two, show 4 * ((0 : Nat) : Int) = 0 from rfl] at hF
  have HF := Lib.hid hF
  clear hF hR hR2 hE1 hE2 hB2 hal hr1 hb1 hr2
  go_wp2_with fail
  refine HF.out.mono ?_
  rintro e w3 ⟨hB3, h3⟩
  rcases h3 with ⟨h3, _⟩ | ⟨_, vi, a2, n2, c2, rfl, hown⟩
  · cases h3
  obtain ⟨g, cap, rfl, hg1, hg2, hc, hrow⟩ := insRow_own hown (by rw [slots_len]) (by decide)
  have HB3 := Lib.hid (HB2.out.trans (hB3.mono HB2.out.size))
  clear hown hrow hB3 hg1 hg2 hc
  go_wp2_with fail
  have hg : Rg (w3.alloc (.cells #[.int .u32 0, .slice (some ⟨g, 0, none⟩) 1 cap, .slice a2 n2 c2] 37)) w3.heap.size (.int .u32 0) (.slice (some ⟨g, 0, none⟩) 1 cap) (.slice a2 n2 c2) := heap_alloc_new w3 _
  have hlt : w3.heap.size < (w3.alloc (.cells #[.int .u32 0, .slice (some ⟨g, 0, none⟩) 1 cap, .slice a2 n2 c2] 37)).heap.size := by simp
  have HB4 := Lib.hid (HB3.out.alloc HB3.out.size (.cells #[.int .u32 0, .slice (some ⟨g, 0, none⟩) 1 cap, .slice a2 n2 c2] 37))
  generalize w3.alloc (.cells #[.int .u32 0, .slice (some ⟨g, 0, none⟩) 1 cap, .slice a2 n2 c2] 37) = w4 at *
  refine (len_ok 0 _ 1 cap (by decide) _ w4).mono ?_
  rintro e w5 ⟨rfl, hb5⟩
  have hg5 : Rg w5 w3.heap.size (.int .u32 0) (.slice (some ⟨g, 0, none⟩) 1 cap) (.slice a2 n2 c2) := (hb5.block _ hlt).trans hg
  obtain ⟨q0, q1, q2, _⟩ := Rg.cells hg5
  have HB5 := Lib.hid (HB4.out.trans (hb5.mono HB4.out.size))
  clear hb5 hg hg5
  go_wp2_with fail
  refine (ends_on 0 _ cap _ w5).mono ?_
  rintro e w6 ⟨rfl, hb6⟩
  have HB6 := Lib.hid (HB5.out.trans (hb6.mono HB5.out.size))
  clear hb6 q0 q1 q2
  go_wp2
  go_ret
  exact ⟨rfl, HB6.out⟩
end Go.Proofs.YtnppegldebocmaaDoor
