/- The walk of (*ram.Ram).Words. Conditions: as each theorem states. -/
import Derived.Test.YtnppegldebocmaaDoorRamN
import Derived.Lib.SmallJoins
namespace Go.Proofs.YtnppegldebocmaaDoor
open Go.RowKit
set_option linter.unusedVariables false
theorem Tryd.infoU : (Tryd.prog.info? 22).map (fun i => (i.zero, i.size, i.bytes)) = some (some (.int .u32 0), 1, 4) := by kernel_rfl
theorem made_zero2 (n : Nat) : ∃ mc : Array Value, (madeCells #[.int .u32 0] n = mc) ∧ mc.size = n ∧ ∀ i, i < n → mc[i]? = some (.int .u32 0) := by
  refine ⟨_, rfl, by simp [size_madeCells], fun i hi => ?_⟩
  simp [madeCells, hi, Nat.mod_one]
/-- Word j behind i bytes. -/
def outK (f : Nat → Int) (i j : Nat) : Int := accF f (4 * j) (min 4 (i - 4 * j))
theorem outK_zero (f : Nat → Int) (j : Nat) : outK f 0 j = 0 := by
  unfold outK
  rw [show min 4 (0 - 4 * j) = 0 by omega]
  rfl
theorem outK_full (f : Nat → Int) (j : Nat) (h : j < 4096) : outK f 16384 j = accF f (4 * j) 4 := by
  unfold outK
  rw [show min 4 (16384 - 4 * j) = 4 by omega]
theorem outK_step (f : Nat → Int) (i j : Nat) : outK f (i + 1) j = if j = i / 4 then outK f i j * 256 + f i else outK f i j := by
  unfold outK
  by_cases h : j = i / 4
  · rw [if_pos h]
    have e1 : min 4 (i + 1 - 4 * j) = (i - 4 * j) + 1 := by omega
    have e2 : min 4 (i - 4 * j) = i - 4 * j := by omega
    rw [e1, e2, accF, show 4 * j + (i - 4 * j) = i by omega]
  · rw [if_neg h]
    by_cases q : j < i / 4
    · rw [show min 4 (i + 1 - 4 * j) = 4 by omega, show min 4 (i - 4 * j) = 4 by omega]
    · rw [show min 4 (i + 1 - 4 * j) = 0 by omega, show min 4 (i - 4 * j) = 0 by omega]
theorem outK_here (f : Nat → Int) (hf : ∀ i, 0 ≤ f i ∧ f i < 256) (i : Nat) : 0 ≤ outK f i (i / 4) ∧ outK f i (i / 4) < 16777216 := by
  unfold outK
  have e : min 4 (i - 4 * (i / 4)) = 0 ∨ min 4 (i - 4 * (i / 4)) = 1 ∨ min 4 (i - 4 * (i / 4)) = 2 ∨ min 4 (i - 4 * (i / 4)) = 3 := by omega
  have h := acc_range f hf (4 * (i / 4)) (min 4 (i - 4 * (i / 4))) (by omega)
  refine ⟨h.1, Int.lt_of_lt_of_le h.2 ?_⟩
  rcases e with e | e | e | e <;> rw [e] <;> decide
set_option maxHeartbeats 1000000 in
theorem words_ok (r bb : Nat) (f : Nat → Int) (hf : ∀ i, 0 ≤ f i ∧ f i < 256) (w : World) (hR : RamAt w r bb f) :
    Calls Tryd.prog 16 #[.pointer (some ⟨r, 0, none⟩)] w fun e w' => ∃ g, e = .returned (.slice (some ⟨g, 0, none⟩) 4096 4096) ∧ w.heap.size ≤ g ∧ g < w'.heap.size ∧ (∀ j, j < 4096 → w'.cell? ⟨g, j, none⟩ = some (.int .u32 (accF f (4 * j) 4))) ∧ Below w.heap.size w w' := by
  obtain ⟨mc, hmc, hmc1, hmc2⟩ := made_zero2 4096
  have hmk : ∀ W : World, (Instr.makeSlice 31 (.int .i64 4096) (.int .i64 4096)).run Tryd.prog W = .ok (.slice (some ⟨W.heap.size, 0, none⟩) 4096 4096) (W.alloc (.cells mc 22)) := by
    intro W
    rw [← hmc]
    exact run_make_row' 31 22 (.int .u32 0) 4 Tryd.underlying31 Tryd.infoU rfl .i64 .i64 4096 (by decide) (by decide) W
  have HM1 := Lib.hid hmc1
  have HM2 := Lib.hid hmc2
  obtain ⟨vw, vh, hk⟩ := hR.blk
  have hrlt := (Array.getElem?_eq_some_iff.1 hk).1
  have c0 : w.cell? ⟨r, 0, none⟩ = some (.slice (some ⟨bb, 0, none⟩) 16384 16384) := by simp [World.cell?, hk]
  have hal := (Below.refl w.heap.size w).alloc (Nat.le_refl _) (.cells mc 22)
  have c1 : (w.alloc (.cells mc 22)).cell? ⟨r, 0, none⟩ = some (.slice (some ⟨bb, 0, none⟩) 16384 16384) := (hal.cell (by exact hrlt)).trans c0
  have HC := Lib.hid hR.cells
  have HBB := Lib.hid hR.lt
  have HF := Lib.hid hf
  have HAL := Lib.hid hal
  clear hk hR hf hmc hmc1 hmc2 hal
  go_enter Tryd.func16, Tryd.ntmps16
  go_wp2_with fail
  go_loopw [18] (fun v wr => ∃ i : Nat, i ≤ 16384 ∧ v = .int .i64 (i : Int) ∧ (∃ cur : Array Value, wr.heap[w.heap.size]? = some (.cells cur 22 (0, 0)) ∧ cur.size = 4096 ∧ ∀ j, j < 4096 → cur[j]? = some (.int .u32 (outK f i j))) ∧ Below w.heap.size w wr) (fun v _ => 16384 - (intOf v).toNat)
  case atStart => exact ⟨0, Nat.zero_le _, rfl, ⟨mc, heap_alloc_new _ _, HM1.out, fun j hj => by rw [HM2.out j hj, outK_zero]⟩, HAL.out⟩
  case round =>
    obtain ⟨i, hi, rfl, ⟨cur, hcur, hcs, hget⟩, HB⟩ := hrel
    clear c0 c1 hmk
    by_cases hlt : i < 16384
    · have hx := (HB.cell (by exact HBB.out)).trans (HC.out i hlt)
      have hy : wr.cell? ⟨w.heap.size, i / 4, none⟩ = some (.int .u32 (outK f i (i / 4))) := by
        have := hget (i / 4) (by omega)
        simp [World.cell?, hcur, this]
      have hfr : wr.frozen? ⟨w.heap.size, i / 4, none⟩ = false := by simp [World.frozen?, hcur]
      obtain ⟨hf0, hf1⟩ := HF.out i
      obtain ⟨ha0, ha1⟩ := outK_here f HF.out i
      have hor := or_byte _ _ ha0 ha1 hf0 hf1
      have HCU := Lib.hid hcur
      have HCS := Lib.hid hcs
      have HG := Lib.hid hget
      have HBB2 := Lib.hid HB
      have HLT := Lib.hid hlt
      have hltZ : (i : Int) < 16384 := by omega
      clear hcur hcs hget HB hlt hi
      go_wp2
      go_roundw
      case rel =>
        refine ⟨i + 1, by have := HLT.out; omega, by go_num, ⟨_, Joins.block_setCell HCU.out _, ?_, fun j hj => ?_⟩, HBB2.out.setCell (by simp) _⟩
        · rw [Array.size_setIfInBounds]; exact HCS.out
        · rw [Array.getElem?_setIfInBounds, outK_step]
          by_cases e : i / 4 = j
          · rw [if_pos e, if_pos (by rw [HCS.out]; have := HLT.out; omega), if_pos e.symm, ← e]
          · rw [if_neg e, if_neg (fun h => e h.symm)]
            exact HG.out j hj
      case measure => have := HLT.out; simp [intOf]; omega
    · have e : i = 16384 := by omega
      have HCU := Lib.hid hcur
      have HG := Lib.hid (fun j (hj : j < 4096) => by rw [← outK_full f j hj, ← e]; exact hget j hj : ∀ j, j < 4096 → cur[j]? = some (.int .u32 (accF f (4 * j) 4)))
      have HBB2 := Lib.hid HB
      have hltZ : ¬ (i : Int) < 16384 := by omega
      clear hcur hget HB hlt hi e hcs
      go_wp2
      go_ret
      refine ⟨w.heap.size, rfl, Nat.le_refl _, (Array.getElem?_eq_some_iff.1 HCU.out).1, fun j hj => ?_, HBB2.out⟩
      have := HG.out j hj
      simp [World.cell?, HCU.out, this]
end Go.Proofs.YtnppegldebocmaaDoor
