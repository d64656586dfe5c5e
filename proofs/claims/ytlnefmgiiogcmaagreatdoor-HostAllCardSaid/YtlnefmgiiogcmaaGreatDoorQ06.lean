/- The walks of ir's registers, at any kind. Conditions: as each theorem states. -/
import Derived.Test.YtlnefmgiiogcmaaGreatDoorQ04
import Derived.Test.YtlnefmgiiogcmaaGreatDoorQ05
set_option linter.unusedVariables false
set_option linter.unusedSimpArgs false
namespace Go.Proofs.YtlnefmgiiogcmaaGreatDoor
open Go.RowKit
set_option maxHeartbeats 8000000 in
set_option maxRecDepth 100000 in
theorem irRegs_any {d a n : Nat} {b im mx : Int} (k : OpK) (hg : opG ⟨k, d, a, b, im, n⟩) (w : World) (hm : w.cell? ⟨8, 0, none⟩ = some (.int .i64 mx)) :
    Calls Tryz.prog 74 #[.agg #[.string k.lit, .int .i64 (d : Int), .int .i64 (a : Int), .int .i64 b, .int .u32 im, .int .i64 (n : Int)]] w fun e w' => e = .returned (.bool true) ∧ Below w.heap.size w w' := by
  have hb' := (Below.refl w.heap.size w).alloc (Nat.le_refl _) (.cells #[.string k.lit, .int .i64 (d : Int), .int .i64 (a : Int), .int .i64 b, .int .u32 im, .int .i64 (n : Int)] 61)
  have HB := Lib.hid hb'
  have HMX := Lib.hid ((hb'.cell (p := ⟨8, 0, none⟩) (World.block_lt_of_cell? _ _ hm)).trans hm)
  have HH := Lib.hid (irHas_any k)
  have HCD := Lib.hid (conD (mx := mx) k)
  have HCA := Lib.hid (conA (mx := mx) k)
  have HCB := Lib.hid (conB (mx := mx) k)
  have HCI := Lib.hid (conI (mx := mx) k)
  have HG := Lib.hid hg
  clear hb' hm hg
  cases k <;> simp only [OpK.lit, hasL, hasD, hasA, hasB, hasI] at HB HMX HH HCD HCA HCB HCI ⊢ <;> (go_enter Tryz.func74, Tryz.ntmps74; go_wp2_with (first | (go_at_call 73; (with_reducible refine (HH.out _).mono ?_); rintro e w1 ⟨rfl, rfl⟩) | (go_at_call 100; (first | (with_reducible refine (HCD.out _ HMX.out).mono ?_) | (with_reducible refine (HCA.out _ HMX.out).mono ?_) | (with_reducible refine (HCB.out _ HMX.out).mono ?_) | (with_reducible refine (HCI.out _ HMX.out).mono ?_)); rintro e w1 ⟨rfl, rfl⟩) | (go_at_call 101; refine (irRegister_yes _ _ (by have h := HG.out; simp only [opG] at h; omega) (by have h := HG.out; simp only [opG] at h; omega) _).mono ?_; rintro e w1 ⟨rfl, rfl⟩)); go_ret; exact ⟨rfl, HB.out⟩)
end Go.Proofs.YtlnefmgiiogcmaaGreatDoor
