/- The walks of ir's bytes, bare, at any kind. Conditions: as each theorem states. -/
import Derived.Test.YtlnefmgiiogcmaaGreatDoorQ04
import Derived.Test.YtlnefmgiiogcmaaGreatDoorQ05
set_option linter.unusedVariables false
set_option linter.unusedSimpArgs false
namespace Go.Proofs.YtlnefmgiiogcmaaGreatDoor
open Go.RowKit
set_option maxHeartbeats 8000000 in
set_option maxRecDepth 100000 in
theorem irBytes_any {d a n : Nat} {b im : Int} (k : OpK) (hg : opG ⟨k, d, a, b, im, n⟩) (w : World) :
    Calls Tryz.prog 75 #[.agg #[.string k.lit, .int .i64 (d : Int), .int .i64 (a : Int), .int .i64 b, .int .u32 im, .int .i64 (n : Int)]] w fun e w' => e = .returned (.bool true) ∧ Below w.heap.size w w' := by
  have HB := Lib.hid ((Below.refl w.heap.size w).alloc (Nat.le_refl _) (.cells #[.string k.lit, .int .i64 (d : Int), .int .i64 (a : Int), .int .i64 b, .int .u32 im, .int .i64 (n : Int)] 61))
  cases k
  case load =>
    obtain ⟨_, _, _, hb⟩ := hg
    simp only [OpK.lit] at HB ⊢
    simp only at hb
    rcases hb with rfl | rfl | rfl | rfl | rfl <;> (go_enter Tryz.func75, Tryz.ntmps75; go_wp2; go_ret; exact ⟨rfl, HB.out⟩)
  case store =>
    obtain ⟨hd, _⟩ := hg
    simp only [OpK.lit] at HB ⊢
    simp only at hd
    rcases hd with rfl | rfl | rfl <;> (go_enter Tryz.func75, Tryz.ntmps75; go_wp2; go_ret; exact ⟨rfl, HB.out⟩)
  all_goals (clear hg; simp only [OpK.lit] at HB ⊢; go_enter Tryz.func75, Tryz.ntmps75; go_wp2; go_ret; exact ⟨rfl, HB.out⟩)
set_option maxHeartbeats 8000000 in
set_option maxRecDepth 100000 in
theorem irBare_at {d a b im n mx : Int} (k : OpK) (hd : hasD k = true ∨ d = 0) (ha : hasA k = true ∨ a = 0) (hb : hasB k = true ∨ b = 0) (hi : hasI k = true ∨ im = 0) (w : World) (hm : w.cell? ⟨8, 0, none⟩ = some (.int .i64 mx)) :
    Calls Tryz.prog 76 #[.agg #[.string k.lit, .int .i64 d, .int .i64 a, .int .i64 b, .int .u32 im, .int .i64 n]] w fun e w' => e = .returned (.bool true) ∧ Below w.heap.size w w' := by
  have hb' := (Below.refl w.heap.size w).alloc (Nat.le_refl _) (.cells #[.string k.lit, .int .i64 d, .int .i64 a, .int .i64 b, .int .u32 im, .int .i64 n] 61)
  have HB := Lib.hid hb'
  have HMX := Lib.hid ((hb'.cell (p := ⟨8, 0, none⟩) (World.block_lt_of_cell? _ _ hm)).trans hm)
  have HH := Lib.hid (irHas_any k)
  have HCD := Lib.hid (conD (mx := mx) k)
  have HCA := Lib.hid (conA (mx := mx) k)
  have HCB := Lib.hid (conB (mx := mx) k)
  have HCI := Lib.hid (conI (mx := mx) k)
  clear hb' hm
  generalize k.lit = kl at *
  generalize hasL k = fl at *
  generalize hasD k = qd at *
  generalize hasA k = qa at *
  generalize hasB k = qb at *
  generalize hasI k = qi at *
  clear k
  cases qd <;> cases qa <;> cases qb <;> cases qi <;> simp only [Bool.false_eq_true, false_or, true_or] at hd ha hb hi <;> subst_vars <;> (go_enter Tryz.func76, Tryz.ntmps76; go_wp2_with (first | (go_at_call 73; (with_reducible refine (HH.out _).mono ?_); rintro e w1 ⟨rfl, rfl⟩) | (go_at_call 100; (first | (with_reducible refine (HCD.out _ HMX.out).mono ?_) | (with_reducible refine (HCA.out _ HMX.out).mono ?_) | (with_reducible refine (HCB.out _ HMX.out).mono ?_) | (with_reducible refine (HCI.out _ HMX.out).mono ?_)); rintro e w1 ⟨rfl, rfl⟩)); go_ret; exact ⟨rfl, HB.out⟩)
theorem irBare_any {d a n : Nat} {b im mx : Int} (k : OpK) (hg : opG ⟨k, d, a, b, im, n⟩) (w : World) (hm : w.cell? ⟨8, 0, none⟩ = some (.int .i64 mx)) :
    Calls Tryz.prog 76 #[.agg #[.string k.lit, .int .i64 (d : Int), .int .i64 (a : Int), .int .i64 b, .int .u32 im, .int .i64 (n : Int)]] w fun e w' => e = .returned (.bool true) ∧ Below w.heap.size w w' := by
  refine irBare_at k ?_ ?_ ?_ ?_ w hm
  · cases k <;> first | (exact Or.inl rfl) | (right; simp only [opG] at hg; omega)
  · cases k <;> first | (exact Or.inl rfl) | (right; simp only [opG] at hg; omega)
  · cases k <;> first | (exact Or.inl rfl) | (right; simp only [opG] at hg; omega)
  · cases k <;> first | (exact Or.inl rfl) | (right; simp only [opG] at hg; omega)
end Go.Proofs.YtlnefmgiiogcmaaGreatDoor
