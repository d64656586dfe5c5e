/- The walk of the document's OpError at a right op. Conditions: as each theorem states. -/
import Derived.Test.YtadoaldnjnkhgaaGreatDoorQ11
set_option linter.unusedVariables false
set_option linter.unusedSimpArgs false
namespace Go.Proofs.YtadoaldnjnkhgaaGreatDoor
open Go.RowKit
set_option maxHeartbeats 8000000
set_option maxRecDepth 100000
theorem hasL_ne3 (k : OpK) : (hasL k).toList.isEmpty = false := by cases k <;> decide +kernel
theorem opError_at {kl fl : ByteArray} {d a b im n many : Int} {qd qa qb qi : Bool} (hks : ¬ kl.toList = [115, 116, 111, 114, 101]) (hkl : ¬ kl.toList = [108, 111, 97, 100]) (hf : fl.toList.isEmpty = false)
    (HF : Hid (∀ wx, Calls Tryz.prog 55 #[.string kl] wx fun e w' => e = .returned (.string fl) ∧ wx = w')) (HID : Hid (∀ wx, Calls Tryz.prog 52 #[.string fl, .int .u8 68] wx fun e w' => e = .returned (.bool qd) ∧ wx = w')) (HIA : Hid (∀ wx, Calls Tryz.prog 52 #[.string fl, .int .u8 65] wx fun e w' => e = .returned (.bool qa) ∧ wx = w')) (HIB : Hid (∀ wx, Calls Tryz.prog 52 #[.string fl, .int .u8 66] wx fun e w' => e = .returned (.bool qb) ∧ wx = w')) (HII : Hid (∀ wx, Calls Tryz.prog 52 #[.string fl, .int .u8 73] wx fun e w' => e = .returned (.bool qi) ∧ wx = w'))
    (hd : ((qd = true → decide (d < 1) = false ∧ decide (64 ≤ d) = false) ∧ (qd = false → d = 0))) (ha : ((qa = true → decide (a < 0) = false ∧ decide (64 ≤ a) = false) ∧ (qa = false → a = 0))) (hb : ((qb = true → decide (b < 0) = false ∧ decide (64 ≤ b) = false) ∧ (qb = false → b = 0))) (hi : qi = false → im = 0) (hn1 : decide (n < 0) = false) (hn2 : decide (many ≤ n) = false) (w : World) :
    Calls Tryz.prog 29 #[.agg #[.string kl, .int .i64 d, .int .i64 a, .int .i64 b, .int .u32 im, .int .i64 n], .int .i64 many] w fun e w' => e = .returned (.int .i64 0) ∧ Below w.heap.size w w' := by
  have HB := Lib.hid ((Below.refl w.heap.size w).alloc (Nat.le_refl _) (.cells #[.string kl, .int .i64 d, .int .i64 a, .int .i64 b, .int .u32 im, .int .i64 n] 86))
  have hks2 : (kl.toList == [115, 116, 111, 114, 101]) = false := by simpa using hks
  have hkl2 : (kl.toList == [108, 111, 97, 100]) = false := by simpa using hkl
  cases qd <;> cases qa <;> cases qb <;> cases qi <;> simp only [Bool.false_eq_true, forall_const, false_implies, and_true, true_and, Bool.true_eq_false] at hd ha hb hi <;> subst_vars <;> (go_split_ands; go_enter Tryz.func29, Tryz.ntmps29; go_wp2_with (first | (go_at_call 55; (with_reducible refine (HF.out _).mono ?_); rintro e w1 ⟨rfl, rfl⟩) | (go_at_call 52; (first | (with_reducible refine (HID.out _).mono ?_) | (with_reducible refine (HIA.out _).mono ?_) | (with_reducible refine (HIB.out _).mono ?_) | (with_reducible refine (HII.out _).mono ?_)); rintro e w1 ⟨rfl, rfl⟩)); go_ret; exact ⟨rfl, HB.out⟩)
theorem opError_store {d a b im n many : Int} (HS : Hid (∀ wx, Calls Tryz.prog 56 #[.int .i64 d, .bool false] wx fun e w' => e = .returned (.bool true) ∧ wx = w')) (ha1 : decide (a < 0) = false) (ha2 : decide (64 ≤ a) = false) (hb1 : decide (b < 0) = false) (hb2 : decide (64 ≤ b) = false) (hn1 : decide (n < 0) = false) (hn2 : decide (many ≤ n) = false) (w : World) :
    Calls Tryz.prog 29 #[.agg #[.string ⟨#[115, 116, 111, 114, 101]⟩, .int .i64 d, .int .i64 a, .int .i64 b, .int .u32 im, .int .i64 n], .int .i64 many] w fun e w' => e = .returned (.int .i64 0) ∧ Below w.heap.size w w' := by
  have HB := Lib.hid ((Below.refl w.heap.size w).alloc (Nat.le_refl _) (.cells #[.string ⟨#[115, 116, 111, 114, 101]⟩, .int .i64 d, .int .i64 a, .int .i64 b, .int .u32 im, .int .i64 n] 86))
  have HF := Lib.hid (fieldsOf_any .store)
  have HID := Lib.hid (isoD .store)
  have HIA := Lib.hid (isoA .store)
  have HIB := Lib.hid (isoB .store)
  have HII := Lib.hid (isoI .store)
  simp only [OpK.lit, hasL, hasD, hasA, hasB, hasI] at HF HID HIA HIB HII
  go_enter Tryz.func29, Tryz.ntmps29
  go_wp2_with (first | (go_at_call 55; (with_reducible refine (HF.out _).mono ?_); rintro e w1 ⟨rfl, rfl⟩) | (go_at_call 52; (first | (with_reducible refine (HID.out _).mono ?_) | (with_reducible refine (HIA.out _).mono ?_) | (with_reducible refine (HIB.out _).mono ?_) | (with_reducible refine (HII.out _).mono ?_)); rintro e w1 ⟨rfl, rfl⟩) | (go_at_call 56; (with_reducible refine (HS.out _).mono ?_); rintro e w1 ⟨rfl, rfl⟩))
  go_ret
  exact ⟨rfl, HB.out⟩
theorem opError_load {d a b im n many : Int} (HS : Hid (∀ wx, Calls Tryz.prog 56 #[.int .i64 b, .bool true] wx fun e w' => e = .returned (.bool true) ∧ wx = w')) (hd1 : decide (d < 1) = false) (hd2 : decide (64 ≤ d) = false) (ha1 : decide (a < 0) = false) (ha2 : decide (64 ≤ a) = false) (hn1 : decide (n < 0) = false) (hn2 : decide (many ≤ n) = false) (w : World) :
    Calls Tryz.prog 29 #[.agg #[.string ⟨#[108, 111, 97, 100]⟩, .int .i64 d, .int .i64 a, .int .i64 b, .int .u32 im, .int .i64 n], .int .i64 many] w fun e w' => e = .returned (.int .i64 0) ∧ Below w.heap.size w w' := by
  have HB := Lib.hid ((Below.refl w.heap.size w).alloc (Nat.le_refl _) (.cells #[.string ⟨#[108, 111, 97, 100]⟩, .int .i64 d, .int .i64 a, .int .i64 b, .int .u32 im, .int .i64 n] 86))
  have HF := Lib.hid (fieldsOf_any .load)
  have HID := Lib.hid (isoD .load)
  have HIA := Lib.hid (isoA .load)
  have HIB := Lib.hid (isoB .load)
  have HII := Lib.hid (isoI .load)
  simp only [OpK.lit, hasL, hasD, hasA, hasB, hasI] at HF HID HIA HIB HII
  go_enter Tryz.func29, Tryz.ntmps29
  go_wp2_with (first | (go_at_call 55; (with_reducible refine (HF.out _).mono ?_); rintro e w1 ⟨rfl, rfl⟩) | (go_at_call 52; (first | (with_reducible refine (HID.out _).mono ?_) | (with_reducible refine (HIA.out _).mono ?_) | (with_reducible refine (HIB.out _).mono ?_) | (with_reducible refine (HII.out _).mono ?_)); rintro e w1 ⟨rfl, rfl⟩) | (go_at_call 56; (with_reducible refine (HS.out _).mono ?_); rintro e w1 ⟨rfl, rfl⟩))
  go_ret
  exact ⟨rfl, HB.out⟩
theorem opError_any (o : OpN) (many : Nat) (hn : o.at' < many) (hg : opG o) (w : World) : Calls Tryz.prog 29 #[opA (bsl o.kind.text) o.d o.a o.b o.imm o.at', .int .i64 (many : Int)] w fun e w' => e = .returned (.int .i64 0) ∧ Below w.heap.size w w' := by
  obtain ⟨k, d, a, b, im, n⟩ := o
  simp only at hn
  rw [lit_text]
  have hn1 : decide ((n : Int) < 0) = false := decide_eq_false (by omega)
  have hn2 : decide ((many : Int) ≤ (n : Int)) = false := decide_eq_false (by omega)
  by_cases hs : k = .store
  · subst hs
    obtain ⟨h1, h2, h3, h4⟩ := hg
    simp only at h1 h2 h3 h4
    exact opError_store (Lib.hid (isSize_d d h1)) (decide_eq_false (by dsimp only; omega)) (decide_eq_false (by dsimp only; omega)) (decide_eq_false (by dsimp only; omega)) (decide_eq_false (by dsimp only; omega)) hn1 hn2 w
  · by_cases hl : k = .load
    · subst hl
      obtain ⟨h1, h2, h3, h4⟩ := hg
      simp only at h1 h2 h3 h4
      exact opError_load (Lib.hid (isSize_b b h4)) (decide_eq_false (by dsimp only; omega)) (decide_eq_false (by dsimp only; omega)) (decide_eq_false (by dsimp only; omega)) (decide_eq_false (by dsimp only; omega)) hn1 hn2 w
    · refine opError_at (by cases k <;> first | exact absurd rfl hs | decide +kernel) (by cases k <;> first | exact absurd rfl hl | decide +kernel) (hasL_ne3 k) (Lib.hid (fieldsOf_any k)) (Lib.hid (isoD k)) (Lib.hid (isoA k)) (Lib.hid (isoB k)) (Lib.hid (isoI k)) ?_ ?_ ?_ ?_ hn1 hn2 w
      · cases k <;> first | exact absurd rfl hs | exact absurd rfl hl | (refine ⟨fun e => ?_, fun e => ?_⟩ <;> first | (exact absurd e (by decide)) | (refine ⟨decide_eq_false ?_, decide_eq_false ?_⟩ <;> (simp only [opG] at hg; try dsimp only; omega)) | (simp only [opG] at hg; try dsimp only; omega))
      · cases k <;> first | exact absurd rfl hs | exact absurd rfl hl | (refine ⟨fun e => ?_, fun e => ?_⟩ <;> first | (exact absurd e (by decide)) | (refine ⟨decide_eq_false ?_, decide_eq_false ?_⟩ <;> (simp only [opG] at hg; try dsimp only; omega)) | (simp only [opG] at hg; try dsimp only; omega))
      · cases k <;> first | exact absurd rfl hs | exact absurd rfl hl | (refine ⟨fun e => ?_, fun e => ?_⟩ <;> first | (exact absurd e (by decide)) | (refine ⟨decide_eq_false ?_, decide_eq_false ?_⟩ <;> (simp only [opG] at hg; try dsimp only; omega)) | (simp only [opG] at hg; try dsimp only; omega))
      · cases k <;> first | exact absurd rfl hs | exact absurd rfl hl | (intro e; first | (exact absurd e (by decide)) | (simp only [opG] at hg; try dsimp only; omega))
end Go.Proofs.YtadoaldnjnkhgaaGreatDoor
