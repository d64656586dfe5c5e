/- Memory of any words; an instruction of memory is that word's; the closed fact of the law. Conditions: as each theorem states. -/
import Derived.Test.YtnppegldebocmaaDoorForm2
import Derived.Test.YtnppegldebocmaaDoorRound2
import Derived.Test.YtnppegldebocmaaDoorBackP
namespace Go.Proofs.YtnppegldebocmaaDoor
open Go.RowKit
set_option linter.unusedVariables false
def memW (ws : Nat → Int) (m k : Nat) : Int := if k < m then ws k else 0
theorem acc_mem (ws : Nat → Int) (m k : Nat) (hw : ∀ k, k < m → 0 ≤ ws k ∧ ws k < 4294967296) : accF (memK ws m) (4 * k) 4 = memW ws m k := by
  have e0 : memK ws m (4 * k) = if k < m then ws k / 256 ^ 3 % 256 else 0 := by
    unfold memK
    rw [show 4 * k / 4 = k by omega, show 4 * k % 4 = 0 by omega]
  have e1 : memK ws m (4 * k + 1) = if k < m then ws k / 256 ^ 2 % 256 else 0 := by
    unfold memK
    rw [show (4 * k + 1) / 4 = k by omega, show (4 * k + 1) % 4 = 1 by omega]
  have e2 : memK ws m (4 * k + 2) = if k < m then ws k / 256 ^ 1 % 256 else 0 := by
    unfold memK
    rw [show (4 * k + 2) / 4 = k by omega, show (4 * k + 2) % 4 = 2 by omega]
  have e3 : memK ws m (4 * k + 3) = if k < m then ws k / 256 ^ 0 % 256 else 0 := by
    unfold memK
    rw [show (4 * k + 3) / 4 = k by omega, show (4 * k + 3) % 4 = 3 by omega]
  simp only [accF, Nat.add_zero]
  rw [e0, e1, e2, e3]
  unfold memW
  by_cases h : k < m
  · obtain ⟨h0, h1⟩ := hw k h
    simp only [if_pos h]
    generalize ws k = x at *
    rw [show (256 : Int) ^ 3 = 16777216 by decide, show (256 : Int) ^ 2 = 65536 by decide, show (256 : Int) ^ 1 = 256 by decide, show (256 : Int) ^ 0 = 1 by decide]
    omega
  · simp only [if_neg h]
    omega
theorem ramW_new {w : World} {r bb : Nat} {ws : Nat → Int} {m : Nat} (h : RamAt w r bb (memK ws m)) (hw : ∀ k, k < m → 0 ≤ ws k ∧ ws k < 4294967296) : RamW w r bb (memW ws m) :=
  ⟨memK ws m, h, fun i => memK_range ws m i, fun k hk => acc_mem ws m k hw⟩
/-- Words of memory. -/
theorem words_W (r bb : Nat) (W : Nat → Int) (w : World) (hR : RamW w r bb W) :
    Calls Tryd.prog 16 #[.pointer (some ⟨r, 0, none⟩)] w fun e w' => ∃ g, e = .returned (.slice (some ⟨g, 0, none⟩) 4096 4096) ∧ w.heap.size ≤ g ∧ g < w'.heap.size ∧ (∀ j, j < 4096 → w'.cell? ⟨g, j, none⟩ = some (.int .u32 (W j))) ∧ Below w.heap.size w w' := by
  obtain ⟨f, h1, h2, h3⟩ := hR.mem
  refine (words_ok r bb f h2 w h1).mono ?_
  rintro e w' ⟨g, e1, e2, e3, e4, e5⟩
  exact ⟨g, e1, e2, e3, fun j hj => by rw [e4 j hj, h3 j hj], e5⟩
theorem kind_zero : kindOfB 0 = trapL := rfl
/-- The word of a slot's instruction. -/
theorem enc_slot (W : Nat → Int) (n : Nat) (hn : n < 4096) (h0 : 0 ≤ W n) (h1 : W n < 4294967296) (hk : kindOfB (slotI W n).op ≠ trapL) (vK vB : Value) (w : World) (hK : w.cell? ⟨5, 0, none⟩ = some vK) (hB : w.cell? ⟨1, 0, none⟩ = some vB) :
    Calls Tryd.prog 17 #[insV (slotI W n)] w fun e w' => e = .returned (.tuple #[.int .u32 (W n), .nilIface]) ∧ Below w.heap.size w w' := by
  have hs : slotI W n = decZ (W n) := by unfold slotI; rw [if_pos hn]
  rw [hs] at hk ⊢
  generalize W n = x at *
  obtain ⟨k, hk1, hk2, hhit, hdec⟩ : ∃ k : Nat, 1 ≤ k ∧ k < 54 ∧ hitB x (k : Int) = true ∧ decZ x = decAt x (k : Int) := by
    rcases decZ_cases x with e | e
    · exact absurd (by rw [e]; exact kind_zero) hk
    · exact e
  have hop : (decZ x).op = (k : Int) := by rw [hdec, decAt_op]
  obtain ⟨xn, rfl⟩ := Int.eq_ofNat_of_zero_le h0
  have hgx : encBad (decZ (xn : Int)) = false := by rw [hdec]; exact dec_good xn k
  have hex : encL (decZ (xn : Int)) (fieldsB (decZ (xn : Int)).op.toNat) = (xn : Int) := by
    rw [hop, hdec]
    exact enc_of_dec xn (by omega) k hhit
  refine (encode_some (decZ (xn : Int)) (decZ_fits _) (by rw [hop]; exact name_full k hk1 hk2) _ _ _ hK hB).mono ?_
  rintro e w' ⟨rfl, hb⟩
  rw [encRes_good hgx, hex]
  exact ⟨rfl, hb⟩
set_option maxHeartbeats 1000000 in
theorem new_none (ws : Nat → Int) (w : World) :
    Calls Tryd.prog 14 #[.slice none 0 0] w fun e w' => ∃ r bb, e = .returned (.pointer (some ⟨r, 0, none⟩)) ∧ w.heap.size ≤ r ∧ w.heap.size ≤ bb ∧ r < w'.heap.size ∧ RamAt w' r bb (memK ws 0) ∧ Below w.heap.size w w' := by
  obtain ⟨mc, hmc, hmc1, hmc2⟩ := made_zero 16384
  have hmk : ∀ W : World, (Instr.makeSlice 69 (.int .i64 16384) (.int .i64 16384)).run Tryd.prog W = .ok (.slice (some ⟨W.heap.size, 0, none⟩) 16384 16384) (W.alloc (.cells mc 5)) := by
    intro W
    rw [← hmc]
    exact run_make_row' 69 5 (.int .u8 0) 1 Tryd.underlying69 Tryd.infoB rfl .i64 .i64 16384 (by decide) (by decide) W
  have hmm := @run_makeMap Tryd.prog
  have HM1 := Lib.hid hmc1
  have HM2 := Lib.hid hmc2
  clear hmc hmc1 hmc2
  go_enter Tryd.func14, Tryd.ntmps14
  go_wp2_with fail
  have HB0 : Below w.heap.size w ((((w.alloc (.cells mc 5)).alloc (.map #[] 0)).alloc (.map #[] 0)).alloc (.cells #[.slice (some ⟨w.heap.size, 0, none⟩) 16384 16384, .map (some (w.heap.size + 1)), .map (some (w.heap.size + 1 + 1))] 72)) :=
    ((((Below.refl _ _).alloc (Nat.le_refl _) _).alloc (by simp <;> omega) _).alloc (by simp <;> omega) _).alloc (by simp <;> omega) _
  have HR0 : RowK ((((w.alloc (.cells mc 5)).alloc (.map #[] 0)).alloc (.map #[] 0)).alloc (.cells #[.slice (some ⟨w.heap.size, 0, none⟩) 16384 16384, .map (some (w.heap.size + 1)), .map (some (w.heap.size + 1 + 1))] 72)) w.heap.size ws 0 := by
    refine ⟨mc.toList, ?_, HM1.out, fun i hi => by rw [HM2.out i hi, memK_zero]⟩
    rw [Below.heap_alloc _ _ _ (by simp <;> omega), Below.heap_alloc _ _ _ (by simp <;> omega), Below.heap_alloc _ _ _ (by simp <;> omega), heap_alloc_new]
  have HS0 : ∃ vw vh : Value, ((((w.alloc (.cells mc 5)).alloc (.map #[] 0)).alloc (.map #[] 0)).alloc (.cells #[.slice (some ⟨w.heap.size, 0, none⟩) 16384 16384, .map (some (w.heap.size + 1)), .map (some (w.heap.size + 1 + 1))] 72)).heap[w.heap.size + 1 + 1 + 1]? = some (.cells #[.slice (some ⟨w.heap.size, 0, none⟩) 16384 16384, vw, vh] 72 (0, 0)) :=
    ⟨_, _, by simpa using heap_alloc_new (((w.alloc (.cells mc 5)).alloc (.map #[] 0)).alloc (.map #[] 0)) (.cells #[.slice (some ⟨w.heap.size, 0, none⟩) 16384 16384, .map (some (w.heap.size + 1)), .map (some (w.heap.size + 1 + 1))] 72)⟩
  have hz0 : w.heap.size + 1 + 1 + 1 < ((((w.alloc (.cells mc 5)).alloc (.map #[] 0)).alloc (.map #[] 0)).alloc (.cells #[.slice (some ⟨w.heap.size, 0, none⟩) 16384 16384, .map (some (w.heap.size + 1)), .map (some (w.heap.size + 1 + 1))] 72)).heap.size := by simp
  generalize ((((w.alloc (.cells mc 5)).alloc (.map #[] 0)).alloc (.map #[] 0)).alloc (.cells #[.slice (some ⟨w.heap.size, 0, none⟩) 16384 16384, .map (some (w.heap.size + 1)), .map (some (w.heap.size + 1 + 1))] 72)) = w1 at *
  clear hmk hmm
  go_loopw [17] (fun i wr => i = .int .i64 0 ∧ wr = w1) (fun i _ => 0)
  case atStart => exact ⟨rfl, rfl⟩
  case round =>
    obtain ⟨rfl, rfl⟩ := hrel
    obtain ⟨vw, vh, hS⟩ := HS0
    obtain ⟨cur, hcur, hcl, hget⟩ := HR0.row
    have HRAM : RamAt wr (w.heap.size + 1 + 1 + 1) w.heap.size (memK ws 0) := by
      refine ⟨⟨vw, vh, hS⟩, fun i hi => ?_, (Array.getElem?_eq_some_iff.1 hcur).1⟩
      have := hget i hi
      simp [World.cell?, hcur, this]
    have HR2 := Lib.hid HRAM
    have HHB := Lib.hid HB0
    clear HRAM hS hcur hcl hget HR0 HB0
    go_wp2
    go_ret
    exact ⟨_, _, rfl, by omega, Nat.le_refl _, hz0, HR2.out, HHB.out⟩
set_option maxHeartbeats 1000000 in
theorem new_empty (a : Addr) (cap : Nat) (ws : Nat → Int) (w : World) :
    Calls Tryd.prog 14 #[.slice (some a) 0 cap] w fun e w' => ∃ r bb, e = .returned (.pointer (some ⟨r, 0, none⟩)) ∧ w.heap.size ≤ r ∧ w.heap.size ≤ bb ∧ r < w'.heap.size ∧ RamAt w' r bb (memK ws 0) ∧ Below w.heap.size w w' := by
  obtain ⟨mc, hmc, hmc1, hmc2⟩ := made_zero 16384
  have hmk : ∀ W : World, (Instr.makeSlice 69 (.int .i64 16384) (.int .i64 16384)).run Tryd.prog W = .ok (.slice (some ⟨W.heap.size, 0, none⟩) 16384 16384) (W.alloc (.cells mc 5)) := by
    intro W
    rw [← hmc]
    exact run_make_row' 69 5 (.int .u8 0) 1 Tryd.underlying69 Tryd.infoB rfl .i64 .i64 16384 (by decide) (by decide) W
  have hmm := @run_makeMap Tryd.prog
  have HM1 := Lib.hid hmc1
  have HM2 := Lib.hid hmc2
  clear hmc hmc1 hmc2
  go_enter Tryd.func14, Tryd.ntmps14
  go_wp2_with fail
  have HB0 : Below w.heap.size w ((((w.alloc (.cells mc 5)).alloc (.map #[] 0)).alloc (.map #[] 0)).alloc (.cells #[.slice (some ⟨w.heap.size, 0, none⟩) 16384 16384, .map (some (w.heap.size + 1)), .map (some (w.heap.size + 1 + 1))] 72)) :=
    ((((Below.refl _ _).alloc (Nat.le_refl _) _).alloc (by simp <;> omega) _).alloc (by simp <;> omega) _).alloc (by simp <;> omega) _
  have HR0 : RowK ((((w.alloc (.cells mc 5)).alloc (.map #[] 0)).alloc (.map #[] 0)).alloc (.cells #[.slice (some ⟨w.heap.size, 0, none⟩) 16384 16384, .map (some (w.heap.size + 1)), .map (some (w.heap.size + 1 + 1))] 72)) w.heap.size ws 0 := by
    refine ⟨mc.toList, ?_, HM1.out, fun i hi => by rw [HM2.out i hi, memK_zero]⟩
    rw [Below.heap_alloc _ _ _ (by simp <;> omega), Below.heap_alloc _ _ _ (by simp <;> omega), Below.heap_alloc _ _ _ (by simp <;> omega), heap_alloc_new]
  have HS0 : ∃ vw vh : Value, ((((w.alloc (.cells mc 5)).alloc (.map #[] 0)).alloc (.map #[] 0)).alloc (.cells #[.slice (some ⟨w.heap.size, 0, none⟩) 16384 16384, .map (some (w.heap.size + 1)), .map (some (w.heap.size + 1 + 1))] 72)).heap[w.heap.size + 1 + 1 + 1]? = some (.cells #[.slice (some ⟨w.heap.size, 0, none⟩) 16384 16384, vw, vh] 72 (0, 0)) :=
    ⟨_, _, by simpa using heap_alloc_new (((w.alloc (.cells mc 5)).alloc (.map #[] 0)).alloc (.map #[] 0)) (.cells #[.slice (some ⟨w.heap.size, 0, none⟩) 16384 16384, .map (some (w.heap.size + 1)), .map (some (w.heap.size + 1 + 1))] 72)⟩
  have hz0 : w.heap.size + 1 + 1 + 1 < ((((w.alloc (.cells mc 5)).alloc (.map #[] 0)).alloc (.map #[] 0)).alloc (.cells #[.slice (some ⟨w.heap.size, 0, none⟩) 16384 16384, .map (some (w.heap.size + 1)), .map (some (w.heap.size + 1 + 1))] 72)).heap.size := by simp
  generalize ((((w.alloc (.cells mc 5)).alloc (.map #[] 0)).alloc (.map #[] 0)).alloc (.cells #[.slice (some ⟨w.heap.size, 0, none⟩) 16384 16384, .map (some (w.heap.size + 1)), .map (some (w.heap.size + 1 + 1))] 72)) = w1 at *
  clear hmk hmm
  go_loopw [17] (fun i wr => i = .int .i64 0 ∧ wr = w1) (fun i _ => 0)
  case atStart => exact ⟨rfl, rfl⟩
  case round =>
    obtain ⟨rfl, rfl⟩ := hrel
    obtain ⟨vw, vh, hS⟩ := HS0
    obtain ⟨cur, hcur, hcl, hget⟩ := HR0.row
    have HRAM : RamAt wr (w.heap.size + 1 + 1 + 1) w.heap.size (memK ws 0) := by
      refine ⟨⟨vw, vh, hS⟩, fun i hi => ?_, (Array.getElem?_eq_some_iff.1 hcur).1⟩
      have := hget i hi
      simp [World.cell?, hcur, this]
    have HR2 := Lib.hid HRAM
    have HHB := Lib.hid HB0
    clear HRAM hS hcur hcl hget HR0 HB0
    go_wp2
    go_ret
    exact ⟨_, _, rfl, by omega, Nat.le_refl _, hz0, HR2.out, HHB.out⟩
end Go.Proofs.YtnppegldebocmaaDoor
