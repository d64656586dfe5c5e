/- The walk of changelinglaw1.AlikeWords where the words are alike. Conditions: as each theorem states. -/
import Derived.Test.YtnppegldebocmaaGreatDoorAsmW
namespace Go.Proofs.YtnppegldebocmaaGreatDoor
open Go.RowKit
set_option linter.unusedVariables false
/-- A slice of words. -/
def ArgW (w : World) (v : Value) (zs : List Int) : Prop :=
  ∃ p cap, v = .slice p zs.length cap ∧ ∀ j (h : j < zs.length), ∃ a, p = some a ∧ w.cell? (a.add j) = some (.int .u32 zs[j])
theorem ArgW.below {w w' : World} {v : Value} {zs : List Int} (h : ArgW w v zs) (hb : Below w.heap.size w w') : ArgW w' v zs := by
  obtain ⟨p, cap, h1, h2⟩ := h
  refine ⟨p, cap, h1, fun j hj => ?_⟩
  obtain ⟨a, e, hc⟩ := h2 j hj
  exact ⟨a, e, (hb.cell (World.block_lt_of_cell? _ _ hc)).trans hc⟩
theorem ArgW.own {w : World} {B : Nat} {v : Value} {zs : List Int} (h : w.ownsRow B 22 1 v zs.length (zs.map (.int .u32))) : ArgW w v zs := by
  rcases Joins.ownsRow_forms h with ⟨rfl, hz⟩ | ⟨g, cap, rfl⟩
  · exact ⟨none, 0, by rw [hz], fun j hj => absurd hj (by omega)⟩
  · refine ⟨some ⟨g, 0, none⟩, cap, rfl, fun j hj => ⟨_, rfl, ?_⟩⟩
    exact h.cells rfl j (.int .u32 zs[j]) (by rw [List.getElem?_map, List.getElem?_eq_getElem hj]; rfl)
set_option maxHeartbeats 1000000 in
theorem alike_same (zs : List Int) (hl : zs.length ≤ 1000) (v1 v2 : Value) (w : World) (h1 : ArgW w v1 zs) (h2 : ArgW w v2 zs) :
    Calls Tryz.prog 17 #[v1, v2] w fun e w' => e = .returned (.int .i64 1) ∧ ∃ k, w' = w.drewN k := by
  obtain ⟨p, cap, rfl, hc1⟩ := h1
  obtain ⟨q, cap2, rfl, hc2⟩ := h2
  have H1 := Lib.hid hc1
  have H2 := Lib.hid hc2
  clear hc1 hc2
  go_enter Tryz.func17, Tryz.ntmps17
  go_wp2_with fail
  go_loopw [5] (fun kv wr => ∃ j k : Nat, j ≤ zs.length ∧ kv = .int .i64 (j : Int) ∧ wr = w.drewN k) (fun kv _ => zs.length - (intOf kv).toNat)
  case atStart => exact ⟨0, 0, Nat.zero_le _, rfl, by simp [World.drewN_zero]⟩
  case round =>
    obtain ⟨j, k, hj, rfl, rfl⟩ := hrel
    by_cases hlt : j < zs.length
    · obtain ⟨a, rfl, ha⟩ := H1.out j hlt
      obtain ⟨b, rfl, hb⟩ := H2.out j hlt
      have hjl : (j : Int) < (zs.length : Int) := by go_light; omega
      have ha2 : (w.drewN k).cell? (a.add j) = some (.int .u32 zs[j]) := ha
      have hb2 : (w.drewN k).cell? (b.add j) = some (.int .u32 zs[j]) := hb
      generalize zs[j] = z at *
      have hz := Tryz.underlying22
      go_wp2_with fail
      go_quiet (fail)
      go_wp2
      go_roundw
      case rel => exact ⟨j + 1, _, hlt, by go_num, rfl⟩
      case measure => go_light; simp [intOf]; omega
    · have hje : j = zs.length := by go_light; omega
      subst hje
      clear hlt
      go_wp2
      go_ret
      exact ⟨rfl, _, rfl⟩
end Go.Proofs.YtnppegldebocmaaGreatDoor
