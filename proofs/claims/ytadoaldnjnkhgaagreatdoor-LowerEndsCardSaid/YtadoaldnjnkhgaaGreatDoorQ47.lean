/- The walk of the document's RunOf over rows of one op each. The plain law of a run: an op's result, and how a code goes on. No program in sight. The walk of the document's RunOf over rows of one op each, second part: its state. Conditions: as each theorem states. -/
import Derived.Test.YtadoaldnjnkhgaaGreatDoorQ46
import Derived.Test.YtadoaldnjnkhgaaGreatDoorQ17
import Derived.Test.YtadoaldnjnkhgaaGreatDoorQ20
import Derived.Deep.RegionHeld3
import Derived.Deep.AppendLies
set_option linter.unusedVariables false
set_option linter.unusedSimpArgs false
namespace Go.Proofs.YtadoaldnjnkhgaaGreatDoor
open Go.RowKit
def resZ (watch : Nat → Bool) (o : OpN) (X : Regs) (ws : List Int) : Int × Int × Bool × Bool := match o.kind with
  | .set => (o.imm, 0, false, false)
  | .copy => (X o.a, 0, false, false)
  | .overP => (0, 0, !fitsZ (wrap32 (X o.a) + wrap32 (X o.b.toNat)), false)
  | .overM => (0, 0, !fitsZ (wrap32 (X o.a) - wrap32 (X o.b.toNat)), false)
  | .load => if reach ((X o.a + o.imm) % 4294967296) o.b.natAbs = true then (wideZ (loadN ws ((X o.a + o.imm) % 4294967296).toNat o.b.natAbs) o.b.natAbs (decide (o.b < 0)), 0, false, false) else (0, 0, true, false)
  | .store => if reach ((X o.a + o.imm) % 4294967296) o.d = true then (X o.b.toNat, (X o.a + o.imm) % 4294967296, watch (((X o.a + o.imm) % 4294967296).toNat / 256), false) else (0, 0, true, false)
  | .cond => (0, o.imm, false, X o.a != 0)
  | .out => (0, o.imm, false, true)
  | .outr => (0, X o.a, false, true)
  | .quo => if X o.b.toNat = 0 then (X o.d, 0, false, false) else ((wrap32 (X o.a)).tdiv (wrap32 (X o.b.toNat)) % 4294967296, 0, false, false)
  | .rem => if X o.b.toNat = 0 then (X o.d, 0, false, false) else ((wrap32 (X o.a)).tmod (wrap32 (X o.b.toNat)) % 4294967296, 0, false, false)
  | .quou => if X o.b.toNat = 0 then (X o.d, 0, false, false) else (X o.a / X o.b.toNat, 0, false, false)
  | .remu => if X o.b.toNat = 0 then (X o.d, 0, false, false) else (X o.a % X o.b.toNat, 0, false, false)
  | k => (sumZ k (X o.a) (X o.b.toNat), 0, false, false)
def regLR (X : Regs) : List Value := (List.range 64).map fun k => .int .u32 (X k)
theorem regLR_len (X : Regs) : (regLR X).length = 64 := by simp [regLR]
theorem regL_get (X : Regs) : ∀ k (h : k < 64), (regLR X).toArray[k]'(by simp [regLR]; exact h) = .int .u32 (X k) := by
  intro k h
  simp [regLR]
set_option maxHeartbeats 1000000 in
theorem resultOf_xs {w : World} {r bw ba bh : Nat} {ws : List Int} {wt ht : Nat → Bool} (X : Regs) (xs : Array Value) (hx : xs.size = 64) (hX : ∀ k (h : k < 64), xs[k]'(by omega) = .int .u32 (X k)) (hXr : ∀ k, Reg32 (X k)) (o : OpN) (hg : opG o) (hi : Reg32 o.imm) (h : RamM w r bw ba bh ws wt ht) :
    Calls Tryz.prog 58 #[.agg xs, .pointer (some ⟨r, 0, none⟩), opA (bsl o.kind.text) o.d o.a o.b o.imm o.at'] w fun e w' => e = .returned (resA (resZ wt o X ws).1 (resZ wt o X ws).2.1 (resZ wt o X ws).2.2.1 (resZ wt o X ws).2.2.2) ∧ Below w.heap.size w w' := by
  obtain ⟨k, d, a, b, imm, n⟩ := o
  cases k with
  | set =>
    obtain ⟨g1, g2, rfl, rfl⟩ := hg
    exact res_set X xs hx hX r d 0 0 imm n (by decide) (by decide) (by decide) w
  | copy =>
    obtain ⟨g1, g2, g3, rfl, rfl⟩ := hg
    exact res_copy X xs hx hX r d a 0 0 n g3 (by decide) (by decide) w
  | overP =>
    obtain ⟨rfl, g1, g2, g3, rfl⟩ := hg
    exact res_overP X xs hx hX r 0 a b 0 n g1 g2 g3 hXr w
  | overM =>
    obtain ⟨rfl, g1, g2, g3, rfl⟩ := hg
    exact res_overM X xs hx hX r 0 a b 0 n g1 g2 g3 hXr w
  | load =>
    obtain ⟨g1, g2, g3, g4⟩ := hg
    simp only [resZ]
    simp only at g3 g4
    by_cases hr : reach ((X a + imm) % 4294967296) b.natAbs = true
    · rw [if_pos hr]
      by_cases hb : b < 0
      · exact res_load_yes_neg X xs hx hX r d a b imm n g3 (by omega) hi hXr hr w h
      · exact res_load_yes_pos X xs hx hX r d a b imm n g3 (by omega) hi hXr hr w h
    · rw [if_neg hr]
      by_cases hb : b < 0
      · exact res_load_no_neg X xs hx hX r d a b imm n g3 (by omega) hi hXr hr w h
      · exact res_load_no_pos X xs hx hX r d a b imm n g3 (by omega) hi hXr hr w h
  | store =>
    obtain ⟨g1, g2, g3, g4⟩ := hg
    simp only [resZ]
    by_cases hr : reach ((X a + imm) % 4294967296) d = true
    · rw [if_pos hr]
      exact res_store_yes X xs hx hX r d a b imm n g2 g3 g4 g1 hi hXr hr w h
    · rw [if_neg hr]
      exact res_store_no X xs hx hX r d a b imm n g2 g3 g4 g1 hi hXr hr w h
  | cond =>
    obtain ⟨rfl, g1, rfl⟩ := hg
    exact res_cond X xs hx hX r 0 a 0 imm n g1 (by decide) (by decide) w
  | out =>
    obtain ⟨rfl, rfl, rfl⟩ := hg
    exact res_out X xs hx hX r 0 0 0 imm n (by decide) (by decide) (by decide) w
  | outr =>
    obtain ⟨rfl, g1, rfl, rfl⟩ := hg
    exact res_outr X xs hx hX r 0 a 0 0 n g1 (by decide) (by decide) w
  | quo =>
    obtain ⟨g1, g2, g3, g4, g5, rfl⟩ := hg
    simp only [resZ]
    by_cases hz : X b.toNat = 0
    · rw [if_pos hz]
      exact res_quo_zero X xs hx hX r d a b 0 n g2 g3 g4 g5 hXr hz w
    · rw [if_neg hz]
      exact res_quo_some X xs hx hX r d a b 0 n g2 g3 g4 g5 hXr hz w
  | rem =>
    obtain ⟨g1, g2, g3, g4, g5, rfl⟩ := hg
    simp only [resZ]
    by_cases hz : X b.toNat = 0
    · rw [if_pos hz]
      exact res_rem_zero X xs hx hX r d a b 0 n g2 g3 g4 g5 hXr hz w
    · rw [if_neg hz]
      exact res_rem_some X xs hx hX r d a b 0 n g2 g3 g4 g5 hXr hz w
  | quou =>
    obtain ⟨g1, g2, g3, g4, g5, rfl⟩ := hg
    simp only [resZ]
    by_cases hz : X b.toNat = 0
    · rw [if_pos hz]
      exact res_quou_zero X xs hx hX r d a b 0 n g2 g3 g4 g5 hXr hz w
    · rw [if_neg hz]
      exact res_quou_some X xs hx hX r d a b 0 n g2 g3 g4 g5 hXr hz w
  | remu =>
    obtain ⟨g1, g2, g3, g4, g5, rfl⟩ := hg
    simp only [resZ]
    by_cases hz : X b.toNat = 0
    · rw [if_pos hz]
      exact res_remu_zero X xs hx hX r d a b 0 n g2 g3 g4 g5 hXr hz w
    · rw [if_neg hz]
      exact res_remu_some X xs hx hX r d a b 0 n g2 g3 g4 g5 hXr hz w
  | add =>
    obtain ⟨g1, g2, g3, g4, g5, rfl⟩ := hg
    exact res_sum X xs hx hX r .add rfl _ rfl (by decide +kernel) (by decide +kernel) (by decide +kernel) (by decide +kernel) (by decide +kernel) (by decide +kernel) (by decide +kernel) (by decide +kernel) (by decide +kernel) rfl d a b 0 n g3 g4 g5 hXr w
  | sub =>
    obtain ⟨g1, g2, g3, g4, g5, rfl⟩ := hg
    exact res_sum X xs hx hX r .sub rfl _ rfl (by decide +kernel) (by decide +kernel) (by decide +kernel) (by decide +kernel) (by decide +kernel) (by decide +kernel) (by decide +kernel) (by decide +kernel) (by decide +kernel) rfl d a b 0 n g3 g4 g5 hXr w
  | and =>
    obtain ⟨g1, g2, g3, g4, g5, rfl⟩ := hg
    exact res_sum X xs hx hX r .and rfl _ rfl (by decide +kernel) (by decide +kernel) (by decide +kernel) (by decide +kernel) (by decide +kernel) (by decide +kernel) (by decide +kernel) (by decide +kernel) (by decide +kernel) rfl d a b 0 n g3 g4 g5 hXr w
  | or =>
    obtain ⟨g1, g2, g3, g4, g5, rfl⟩ := hg
    exact res_sum X xs hx hX r .or rfl _ rfl (by decide +kernel) (by decide +kernel) (by decide +kernel) (by decide +kernel) (by decide +kernel) (by decide +kernel) (by decide +kernel) (by decide +kernel) (by decide +kernel) rfl d a b 0 n g3 g4 g5 hXr w
  | xor =>
    obtain ⟨g1, g2, g3, g4, g5, rfl⟩ := hg
    exact res_sum X xs hx hX r .xor rfl _ rfl (by decide +kernel) (by decide +kernel) (by decide +kernel) (by decide +kernel) (by decide +kernel) (by decide +kernel) (by decide +kernel) (by decide +kernel) (by decide +kernel) rfl d a b 0 n g3 g4 g5 hXr w
  | nor =>
    obtain ⟨g1, g2, g3, g4, g5, rfl⟩ := hg
    exact res_sum X xs hx hX r .nor rfl _ rfl (by decide +kernel) (by decide +kernel) (by decide +kernel) (by decide +kernel) (by decide +kernel) (by decide +kernel) (by decide +kernel) (by decide +kernel) (by decide +kernel) rfl d a b 0 n g3 g4 g5 hXr w
  | slt =>
    obtain ⟨g1, g2, g3, g4, g5, rfl⟩ := hg
    exact res_sum X xs hx hX r .slt rfl _ rfl (by decide +kernel) (by decide +kernel) (by decide +kernel) (by decide +kernel) (by decide +kernel) (by decide +kernel) (by decide +kernel) (by decide +kernel) (by decide +kernel) rfl d a b 0 n g3 g4 g5 hXr w
  | sltu =>
    obtain ⟨g1, g2, g3, g4, g5, rfl⟩ := hg
    exact res_sum X xs hx hX r .sltu rfl _ rfl (by decide +kernel) (by decide +kernel) (by decide +kernel) (by decide +kernel) (by decide +kernel) (by decide +kernel) (by decide +kernel) (by decide +kernel) (by decide +kernel) rfl d a b 0 n g3 g4 g5 hXr w
  | shl =>
    obtain ⟨g1, g2, g3, g4, g5, rfl⟩ := hg
    exact res_sum X xs hx hX r .shl rfl _ rfl (by decide +kernel) (by decide +kernel) (by decide +kernel) (by decide +kernel) (by decide +kernel) (by decide +kernel) (by decide +kernel) (by decide +kernel) (by decide +kernel) rfl d a b 0 n g3 g4 g5 hXr w
  | shr =>
    obtain ⟨g1, g2, g3, g4, g5, rfl⟩ := hg
    exact res_sum X xs hx hX r .shr rfl _ rfl (by decide +kernel) (by decide +kernel) (by decide +kernel) (by decide +kernel) (by decide +kernel) (by decide +kernel) (by decide +kernel) (by decide +kernel) (by decide +kernel) rfl d a b 0 n g3 g4 g5 hXr w
  | sar =>
    obtain ⟨g1, g2, g3, g4, g5, rfl⟩ := hg
    exact res_sum X xs hx hX r .sar rfl _ rfl (by decide +kernel) (by decide +kernel) (by decide +kernel) (by decide +kernel) (by decide +kernel) (by decide +kernel) (by decide +kernel) (by decide +kernel) (by decide +kernel) rfl d a b 0 n g3 g4 g5 hXr w
  | mul =>
    obtain ⟨g1, g2, g3, g4, g5, rfl⟩ := hg
    exact res_sum X xs hx hX r .mul rfl _ rfl (by decide +kernel) (by decide +kernel) (by decide +kernel) (by decide +kernel) (by decide +kernel) (by decide +kernel) (by decide +kernel) (by decide +kernel) (by decide +kernel) rfl d a b 0 n g3 g4 g5 hXr w
  | mulh =>
    obtain ⟨g1, g2, g3, g4, g5, rfl⟩ := hg
    exact res_sum X xs hx hX r .mulh rfl _ rfl (by decide +kernel) (by decide +kernel) (by decide +kernel) (by decide +kernel) (by decide +kernel) (by decide +kernel) (by decide +kernel) (by decide +kernel) (by decide +kernel) rfl d a b 0 n g3 g4 g5 hXr w
  | mulhu =>
    obtain ⟨g1, g2, g3, g4, g5, rfl⟩ := hg
    exact res_sum X xs hx hX r .mulhu rfl _ rfl (by decide +kernel) (by decide +kernel) (by decide +kernel) (by decide +kernel) (by decide +kernel) (by decide +kernel) (by decide +kernel) (by decide +kernel) (by decide +kernel) rfl d a b 0 n g3 g4 g5 hXr w
theorem resultOf_any {w : World} {r bw ba bh : Nat} {ws : List Int} {wt ht : Nat → Bool} (X : Regs) (hXr : ∀ k, Reg32 (X k)) (o : OpN) (hg : opG o) (hi : Reg32 o.imm) (h : RamM w r bw ba bh ws wt ht) :
    Calls Tryz.prog 58 #[.agg (regLR X).toArray, .pointer (some ⟨r, 0, none⟩), opA (bsl o.kind.text) o.d o.a o.b o.imm o.at'] w fun e w' => e = .returned (resA (resZ wt o X ws).1 (resZ wt o X ws).2.1 (resZ wt o X ws).2.2.1 (resZ wt o X ws).2.2.2) ∧ Below w.heap.size w w' :=
  resultOf_xs X (regLR X).toArray (by simp [regLR]) (regL_get X) hXr o hg hi h
theorem MaB.range {w : World} {b r : Nat} {X : Regs} (h : MaB w b X r) : w.rangeAt b 0 (regLR X) := by
  intro j v hv
  have hj : j < 64 := by
    have := (List.getElem?_eq_some_iff.1 hv).1
    rw [regLR_len] at this
    exact this
  have e : (regLR X)[j]? = some (.int .u32 (X j)) := by simp [regLR, hj]
  rw [e] at hv
  cases hv
  rw [Nat.zero_add]
  exact h.reg hj
theorem regL_one (X : Regs) : ∀ v ∈ regLR X, v.oneCell' = true := by
  intro v hv
  simp only [regLR, List.mem_map] at hv
  obtain ⟨k, _, rfl⟩ := hv
  rfl
end Go.Proofs.YtadoaldnjnkhgaaGreatDoor
namespace Go.Proofs.YtadoaldnjnkhgaaGreatDoor
open Go.RowKit
def storeQ (o : OpN) : Bool := storeK o.kind
def memZ (o : OpN) (r : Int × Int × Bool × Bool) (ws : List Int) : List Int := if storeQ o = true then storeN r.2.1.toNat o.d r.1 o.d ws else ws
def regZ (o : OpN) (r : Int × Int × Bool × Bool) (X : Regs) : Regs := if writeD o = 0 then X else updR X (writeD o) r.1
theorem updR_self (X : Regs) (d : Nat) : updR X d (X d) = X := by
  funext k
  unfold updR
  by_cases e : k = d
  · rw [if_pos e, e]
  · rw [if_neg e]
theorem evalZ_step (wt : Nat → Bool) (o : OpN) (os : List OpN) (X : Regs) (ws : List Int) (hg : opG o) :
    (if (resZ wt o X ws).2.2.1 = true then evalZ wt (o :: os) X ws = .trap o.at'
     else if (resZ wt o X ws).2.2.2 = true then evalZ wt (o :: os) X ws = .leave (resZ wt o X ws).2.1 X ws ∧ writeD o = 0 ∧ storeQ o = false
     else evalZ wt (o :: os) X ws = evalZ wt os (regZ o (resZ wt o X ws) X) (memZ o (resZ wt o X ws) ws) ∧ (storeQ o = true → writeD o = 0)) := by
  obtain ⟨k, d, a, b, imm, n⟩ := o
  cases k with
  | set => obtain ⟨g1, _⟩ := hg; simp only at g1; simp [resZ, evalZ, regZ, memZ, writeD, storeQ, storeK]; exact congrArg (fun z => evalZ wt os z ws) (if_neg (show ¬ d = 0 by omega)).symm
  | copy => obtain ⟨g1, _⟩ := hg; simp only at g1; simp [resZ, evalZ, regZ, memZ, writeD, storeQ, storeK]; exact congrArg (fun z => evalZ wt os z ws) (if_neg (show ¬ d = 0 by omega)).symm
  | overP => by_cases h : fitsZ (wrap32 (X a) + wrap32 (X b.toNat)) = true <;> simp [resZ, evalZ, regZ, memZ, writeD, storeQ, storeK, h]
  | overM => by_cases h : fitsZ (wrap32 (X a) - wrap32 (X b.toNat)) = true <;> simp [resZ, evalZ, regZ, memZ, writeD, storeQ, storeK, h]
  | load =>
    obtain ⟨g1, _⟩ := hg
    simp only at g1
    by_cases h : reach ((X a + imm) % 4294967296) b.natAbs = true
    · simp [resZ, evalZ, regZ, memZ, writeD, storeQ, storeK, h]
      exact congrArg (fun z => evalZ wt os z ws) (if_neg (show ¬ d = 0 by omega)).symm
    · simp [resZ, evalZ, regZ, memZ, writeD, storeQ, storeK, h]
  | store =>
    by_cases h : reach ((X a + imm) % 4294967296) d = true
    · by_cases h2 : wt (((X a + imm) % 4294967296).toNat / 256) = true
      · simp [resZ, evalZ, regZ, memZ, writeD, storeQ, storeK, h, h2]
      · simp [resZ, evalZ, regZ, memZ, writeD, storeQ, storeK, h, h2]
    · simp [resZ, evalZ, regZ, memZ, writeD, storeQ, storeK, h]
  | cond => by_cases h : X a = 0 <;> simp [resZ, evalZ, regZ, memZ, writeD, storeQ, storeK, h]
  | out => simp [resZ, evalZ, regZ, memZ, writeD, storeQ, storeK]
  | outr => simp [resZ, evalZ, regZ, memZ, writeD, storeQ, storeK]
  | quo =>
    obtain ⟨g1, _⟩ := hg
    simp only at g1
    by_cases h : X b.toNat = 0
    · simp [resZ, evalZ, regZ, memZ, writeD, storeQ, storeK, divZ, h, updR_self]
    · simp [resZ, evalZ, regZ, memZ, writeD, storeQ, storeK, divZ, h]; exact congrArg (fun z => evalZ wt os z ws) (if_neg (show ¬ d = 0 by omega)).symm
  | rem =>
    obtain ⟨g1, _⟩ := hg
    simp only at g1
    by_cases h : X b.toNat = 0
    · simp [resZ, evalZ, regZ, memZ, writeD, storeQ, storeK, divZ, h, updR_self]
    · simp [resZ, evalZ, regZ, memZ, writeD, storeQ, storeK, divZ, h]; exact congrArg (fun z => evalZ wt os z ws) (if_neg (show ¬ d = 0 by omega)).symm
  | quou =>
    obtain ⟨g1, _⟩ := hg
    simp only at g1
    by_cases h : X b.toNat = 0
    · simp [resZ, evalZ, regZ, memZ, writeD, storeQ, storeK, divZ, h, updR_self]
    · simp [resZ, evalZ, regZ, memZ, writeD, storeQ, storeK, divZ, h]; exact congrArg (fun z => evalZ wt os z ws) (if_neg (show ¬ d = 0 by omega)).symm
  | remu =>
    obtain ⟨g1, _⟩ := hg
    simp only at g1
    by_cases h : X b.toNat = 0
    · simp [resZ, evalZ, regZ, memZ, writeD, storeQ, storeK, divZ, h, updR_self]
    · simp [resZ, evalZ, regZ, memZ, writeD, storeQ, storeK, divZ, h]; exact congrArg (fun z => evalZ wt os z ws) (if_neg (show ¬ d = 0 by omega)).symm
  | add => obtain ⟨g1, _⟩ := hg; simp only at g1; simp [resZ, evalZ, regZ, memZ, writeD, storeQ, storeK]; exact congrArg (fun z => evalZ wt os z ws) (if_neg (show ¬ d = 0 by omega)).symm
  | sub => obtain ⟨g1, _⟩ := hg; simp only at g1; simp [resZ, evalZ, regZ, memZ, writeD, storeQ, storeK]; exact congrArg (fun z => evalZ wt os z ws) (if_neg (show ¬ d = 0 by omega)).symm
  | and => obtain ⟨g1, _⟩ := hg; simp only at g1; simp [resZ, evalZ, regZ, memZ, writeD, storeQ, storeK]; exact congrArg (fun z => evalZ wt os z ws) (if_neg (show ¬ d = 0 by omega)).symm
  | or => obtain ⟨g1, _⟩ := hg; simp only at g1; simp [resZ, evalZ, regZ, memZ, writeD, storeQ, storeK]; exact congrArg (fun z => evalZ wt os z ws) (if_neg (show ¬ d = 0 by omega)).symm
  | xor => obtain ⟨g1, _⟩ := hg; simp only at g1; simp [resZ, evalZ, regZ, memZ, writeD, storeQ, storeK]; exact congrArg (fun z => evalZ wt os z ws) (if_neg (show ¬ d = 0 by omega)).symm
  | nor => obtain ⟨g1, _⟩ := hg; simp only at g1; simp [resZ, evalZ, regZ, memZ, writeD, storeQ, storeK]; exact congrArg (fun z => evalZ wt os z ws) (if_neg (show ¬ d = 0 by omega)).symm
  | slt => obtain ⟨g1, _⟩ := hg; simp only at g1; simp [resZ, evalZ, regZ, memZ, writeD, storeQ, storeK]; exact congrArg (fun z => evalZ wt os z ws) (if_neg (show ¬ d = 0 by omega)).symm
  | sltu => obtain ⟨g1, _⟩ := hg; simp only at g1; simp [resZ, evalZ, regZ, memZ, writeD, storeQ, storeK]; exact congrArg (fun z => evalZ wt os z ws) (if_neg (show ¬ d = 0 by omega)).symm
  | shl => obtain ⟨g1, _⟩ := hg; simp only at g1; simp [resZ, evalZ, regZ, memZ, writeD, storeQ, storeK]; exact congrArg (fun z => evalZ wt os z ws) (if_neg (show ¬ d = 0 by omega)).symm
  | shr => obtain ⟨g1, _⟩ := hg; simp only at g1; simp [resZ, evalZ, regZ, memZ, writeD, storeQ, storeK]; exact congrArg (fun z => evalZ wt os z ws) (if_neg (show ¬ d = 0 by omega)).symm
  | sar => obtain ⟨g1, _⟩ := hg; simp only at g1; simp [resZ, evalZ, regZ, memZ, writeD, storeQ, storeK]; exact congrArg (fun z => evalZ wt os z ws) (if_neg (show ¬ d = 0 by omega)).symm
  | mul => obtain ⟨g1, _⟩ := hg; simp only at g1; simp [resZ, evalZ, regZ, memZ, writeD, storeQ, storeK]; exact congrArg (fun z => evalZ wt os z ws) (if_neg (show ¬ d = 0 by omega)).symm
  | mulh => obtain ⟨g1, _⟩ := hg; simp only at g1; simp [resZ, evalZ, regZ, memZ, writeD, storeQ, storeK]; exact congrArg (fun z => evalZ wt os z ws) (if_neg (show ¬ d = 0 by omega)).symm
  | mulhu => obtain ⟨g1, _⟩ := hg; simp only at g1; simp [resZ, evalZ, regZ, memZ, writeD, storeQ, storeK]; exact congrArg (fun z => evalZ wt os z ws) (if_neg (show ¬ d = 0 by omega)).symm
theorem resZ_ok {wt : Nat → Bool} {o : OpN} {X : Regs} {ws : List Int} (hX : ∀ k, Reg32 (X k)) (hi : Reg32 o.imm) : Reg32 (resZ wt o X ws).1 ∧ Reg32 (resZ wt o X ws).2.1 := by
  obtain ⟨k, d, a, b, imm, n⟩ := o
  have ha := hX a
  have hb := hX b.toNat
  cases k with
  | set => exact ⟨hi, r32_0⟩
  | copy => exact ⟨ha, r32_0⟩
  | overP => exact ⟨r32_0, r32_0⟩
  | overM => exact ⟨r32_0, r32_0⟩
  | load =>
    simp only [resZ]
    split
    · exact ⟨wideZ_ok (load_ok _ _ _) _, r32_0⟩
    · exact ⟨r32_0, r32_0⟩
  | store =>
    simp only [resZ]
    split
    · exact ⟨hb, r32_mod _⟩
    · exact ⟨r32_0, r32_0⟩
  | cond => exact ⟨r32_0, hi⟩
  | out => exact ⟨r32_0, hi⟩
  | outr => exact ⟨r32_0, ha⟩
  | quo =>
    simp only [resZ]
    split
    · exact ⟨hX d, r32_0⟩
    · exact ⟨r32_mod _, r32_0⟩
  | rem =>
    simp only [resZ]
    split
    · exact ⟨hX d, r32_0⟩
    · exact ⟨r32_mod _, r32_0⟩
  | quou =>
    simp only [resZ]
    split
    · exact ⟨hX d, r32_0⟩
    · next hz =>
      have := divZ_ok (a := X a) (b := X b.toNat) ha hb (s := false) (q := (X a / X b.toNat, X a % X b.toNat)) (by unfold divZ; rw [if_neg hz]; rfl)
      exact ⟨this.1, r32_0⟩
  | remu =>
    simp only [resZ]
    split
    · exact ⟨hX d, r32_0⟩
    · next hz =>
      have := divZ_ok (a := X a) (b := X b.toNat) ha hb (s := false) (q := (X a / X b.toNat, X a % X b.toNat)) (by unfold divZ; rw [if_neg hz]; rfl)
      exact ⟨this.2, r32_0⟩
  | add => exact ⟨sumZ_ok .add ha hb, r32_0⟩
  | sub => exact ⟨sumZ_ok .sub ha hb, r32_0⟩
  | and => exact ⟨sumZ_ok .and ha hb, r32_0⟩
  | or => exact ⟨sumZ_ok .or ha hb, r32_0⟩
  | xor => exact ⟨sumZ_ok .xor ha hb, r32_0⟩
  | nor => exact ⟨sumZ_ok .nor ha hb, r32_0⟩
  | slt => exact ⟨sumZ_ok .slt ha hb, r32_0⟩
  | sltu => exact ⟨sumZ_ok .sltu ha hb, r32_0⟩
  | shl => exact ⟨sumZ_ok .shl ha hb, r32_0⟩
  | shr => exact ⟨sumZ_ok .shr ha hb, r32_0⟩
  | sar => exact ⟨sumZ_ok .sar ha hb, r32_0⟩
  | mul => exact ⟨sumZ_ok .mul ha hb, r32_0⟩
  | mulh => exact ⟨sumZ_ok .mulh ha hb, r32_0⟩
  | mulhu => exact ⟨sumZ_ok .mulhu ha hb, r32_0⟩
end Go.Proofs.YtadoaldnjnkhgaaGreatDoor
namespace Go.Proofs.YtadoaldnjnkhgaaGreatDoor
open Go.RowKit
structure OneRows (w : World) (gs : Nat) (bs : List Nat) (ops : List OpN) : Prop where
  len : bs.length = ops.length
  sl : ∀ i (h : i < bs.length), w.cell? ⟨gs, i, none⟩ = some (.slice (some ⟨bs[i], 0, none⟩) 1 1)
  op : ∀ i (h : i < bs.length) (h2 : i < ops.length), OpsAt w bs[i] [ops[i]]
  lt : gs < w.heap.size
theorem OneRows.of_kept {S : Nat → Prop} {w w' : World} {gs : Nat} {bs : List Nat} {ops : List OpN} (h : OneRows w gs bs ops) (hk : Kept S w w') (h1 : ¬ S gs) (h2 : ∀ b ∈ bs, ¬ S b) : OneRows w' gs bs ops where
  len := h.len
  sl i hi := by
    have := h.sl i hi
    unfold World.cell? at this ⊢
    simp only at this ⊢
    rw [hk.same gs h.lt h1]
    exact this
  op i hi hi2 := (h.op i hi hi2).of_block (hk.same _ (h.op i hi hi2).lt (h2 _ (List.getElem_mem hi)))
  lt := Nat.lt_of_lt_of_le h.lt hk.below.size
theorem OneRows.below {w w' : World} {gs : Nat} {bs : List Nat} {ops : List OpN} (h : OneRows w gs bs ops) (hb : Below w.heap.size w w') : OneRows w' gs bs ops := h.of_kept (S := fun _ => False) (.of_below hb) id (fun _ _ => id)
theorem OneRows.one {w : World} {gs : Nat} {bs : List Nat} {ops : List OpN} (h : OneRows w gs bs ops) {i : Nat} (hi : i < ops.length) : ∃ b, w.cell? ⟨gs, i, none⟩ = some (.slice (some ⟨b, 0, none⟩) 1 1) ∧ b < w.heap.size ∧
    w.cell? ⟨b, 0, none⟩ = some (.string (bsl ops[i].kind.text)) ∧ w.cell? ⟨b, 1, none⟩ = some (.int .i64 (ops[i].d : Int)) ∧ w.cell? ⟨b, 2, none⟩ = some (.int .i64 (ops[i].a : Int)) ∧ w.cell? ⟨b, 3, none⟩ = some (.int .i64 ops[i].b) ∧ w.cell? ⟨b, 4, none⟩ = some (.int .u32 ops[i].imm) ∧ w.cell? ⟨b, 5, none⟩ = some (.int .i64 (ops[i].at' : Int)) := by
  have hi2 : i < bs.length := by rw [h.len]; exact hi
  have ho := h.op i hi2 hi
  obtain ⟨c0, c1, c2, c3, c4, c5⟩ := ho.cells 0 (by simp)
  simp only [Nat.zero_mul, Nat.zero_add, List.getElem_cons_zero] at c0 c1 c2 c3 c4 c5
  exact ⟨_, h.sl i hi2, ho.lt, c0, c1, c2, c3, c4, c5⟩
theorem bw_alloc {a w : World} {o : Obj} (h : Below a.heap.size a w) : Below a.heap.size a (w.alloc o) := h.alloc h.size o
theorem bw_trans {a w w2 : World} (h : Below a.heap.size a w) (h2 : Below w.heap.size w w2) : Below a.heap.size a w2 := h.trans (h2.mono h.size)
theorem four_after {wX w3 : World} {t : TypeId} {a0 a1 a2 a3 : Value} (hb : Below (wX.alloc (.cells #[a0, a1, a2, a3] t)).drew.heap.size (wX.alloc (.cells #[a0, a1, a2, a3] t)).drew w3) : Four w3 wX.heap.size t a0 a1 a2 a3 :=
  (hb.block _ (by simp)).trans (heap_alloc_new wX _)
abbrev endA (t : Bool) (a : Int) (f : Bool) : Value := .agg #[.bool t, .int .i64 a, .bool f]
abbrev Tri (w : World) (b : Nat) (t : TypeId) (a0 a1 a2 : Value) : Prop := w.heap[b]? = some (.cells #[a0, a1, a2] t (0, 0))
theorem Tri.cells {w : World} {b : Nat} {t : TypeId} {a0 a1 a2 : Value} (h : Tri w b t a0 a1 a2) : w.cell? ⟨b, 0, none⟩ = some a0 ∧ w.cell? ⟨b, 1, none⟩ = some a1 ∧ w.cell? ⟨b, 2, none⟩ = some a2 ∧ w.frozen? ⟨b, 0, none⟩ = false ∧ w.frozen? ⟨b, 1, none⟩ = false ∧ w.frozen? ⟨b, 2, none⟩ = false := by
  unfold Tri at h
  refine ⟨?_, ?_, ?_, ?_, ?_, ?_⟩ <;> simp [World.cell?, World.frozen?, h]
abbrev fill3 (w : World) (b : Nat) (v0 v1 v2 : Value) : World := ((w.setCell ⟨b, 0, none⟩ v0).setCell ⟨b, 1, none⟩ v1).setCell ⟨b, 2, none⟩ v2
theorem Tri.fill {w : World} {b : Nat} {t : TypeId} {a0 a1 a2 : Value} (h : Tri w b t a0 a1 a2) (v0 v1 v2 : Value) : Tri (fill3 w b v0 v1 v2) b t v0 v1 v2 := Joins.block_setCell (Joins.block_setCell (Joins.block_setCell h v0) v1) v2
theorem below_fill3 {B : Nat} {a w : World} (h : Below B a w) {b : Nat} (hb : B ≤ b) (v0 v1 v2 : Value) : Below B a (fill3 w b v0 v1 v2) := ((h.setCell hb _).setCell hb _).setCell hb _
theorem Tryz.infoRs : (Tryz.prog.info? 139).map (fun i => (i.zero, i.size, i.bytes)) = some (some (.agg #[.int .u32 0, .int .u32 0, .bool false, .bool false]), 4, 12) := by kernel_rfl
theorem four_news (w : World) (a b c d : Value) (t : TypeId) : ∀ j v, [a, b, c, d][j]? = some v → (w.alloc (.cells #[a, b, c, d] t)).cell? ((⟨w.heap.size, 0, none⟩ : Addr).add j) = some v := by
  intro j u hj
  match j, hj with
  | 0, hj => simp at hj; subst hj; simp [Addr.add]
  | 1, hj => simp at hj; subst hj; simp [Addr.add]
  | 2, hj => simp at hj; subst hj; simp [Addr.add]
  | 3, hj => simp at hj; subst hj; simp [Addr.add]
  | j + 4, hj => simp at hj
structure ResC (w : World) (b : Nat) (v p : Int) (t l : Bool) : Prop where
  c0 : w.cell? ⟨b, 0, none⟩ = some (.int .u32 v)
  c1 : w.cell? ⟨b, 1, none⟩ = some (.int .u32 p)
  c2 : w.cell? ⟨b, 2, none⟩ = some (.bool t)
  c3 : w.cell? ⟨b, 3, none⟩ = some (.bool l)
theorem ResC.own {w : World} {B g cap : Nat} {e : TypeId} {v p : Int} {t l : Bool} (h : w.ownsRow B e 4 (.slice (some ⟨g, 0, none⟩) (0 + 1) cap) (0 + 1) ([] ++ [.int .u32 v, .int .u32 p, .bool t, .bool l])) : ResC w g v p t l := by
  have hc := fun j u => h.cells (g := g) rfl j u
  have ha : ∀ j, (⟨g, 0, none⟩ : Addr).add j = ⟨g, j, none⟩ := fun j => addr_add g j
  exact ⟨by have := hc 0 _ rfl; rw [ha] at this; exact this, by have := hc 1 _ rfl; rw [ha] at this; exact this, by have := hc 2 _ rfl; rw [ha] at this; exact this, by have := hc 3 _ rfl; rw [ha] at this; exact this⟩
theorem ResC.below {w w' : World} {b : Nat} {v p : Int} {t l : Bool} (h : ResC w b v p t l) (hb : Below w.heap.size w w') : ResC w' b v p t l :=
  ⟨(hb.cell (World.block_lt_of_cell? _ _ h.c0)).trans h.c0, (hb.cell (World.block_lt_of_cell? _ _ h.c1)).trans h.c1, (hb.cell (World.block_lt_of_cell? _ _ h.c2)).trans h.c2, (hb.cell (World.block_lt_of_cell? _ _ h.c3)).trans h.c3⟩
def RunPost (w : World) (sb r ba bh many : Nat) (s : StF) (ops : List OpN) (ws : List Int) (wt ht : Nat → Bool) (e : Ending) (w' : World) : Prop :=
  match evalZ wt ops (regsOf s) ws with
  | .trap k => e = .returned (endA true k false) ∧ Below w.heap.size w w'
  | .leave pc X ws' => e = .returned (endA false 0 false) ∧ StB w' sb { s with r := fun k => if k = 0 then s.r 0 else X k, hi := X 32, lo := X 33, pc := pc, next := (pc + 4) % 4294967296, count := s.count + many } ∧ (∃ bw', RamM w' r bw' ba bh ws' wt ht ∧ w.heap.size ≤ bw') ∧ Kept (fun k => k = sb ∨ k = r) w w'
  | .fell => True
structure RunS (w0 w : World) (eb mb x xw xa xh sb r bw ba bh gs : Nat) (bs : List Nat) (ops : List OpN) (s : StF) (X : Regs) (ws ws0 : List Int) (wt ht ht0 : Nat → Bool) : Prop where
  ebk : Tri w eb 51 (.bool false) (.int .i64 0) (.bool false)
  ma : MaB w mb X x
  ra : RamM w x xw xa xh ws wt ht
  st : StB w sb s
  r0 : RamM w r bw ba bh ws0 wt ht0
  rows : OneRows w gs bs ops
  below : Below w0.heap.size w0 w
  regs : ∀ k, Reg32 (X k)
  old : sb < w0.heap.size ∧ r < w0.heap.size ∧ bw < w0.heap.size ∧ ba < w0.heap.size ∧ bh < w0.heap.size ∧ gs < w0.heap.size ∧ ∀ b ∈ bs, b < w0.heap.size
  new : w0.heap.size ≤ eb ∧ eb < mb ∧ eb < x ∧ eb < xw ∧ eb < xa ∧ eb < xh
theorem ne_type {w : World} {a b : Nat} {ca cb : Array Value} {ta tb : TypeId} (ha : w.heap[a]? = some (.cells ca ta (0, 0))) (hb : w.heap[b]? = some (.cells cb tb (0, 0))) (h : ta ≠ tb) : a ≠ b := by
  intro e
  subst e
  rw [ha] at hb
  simp only [Option.some.injEq, Obj.cells.injEq] at hb
  exact h hb.2.1
section
variable {w0 w w' : World} {eb mb x xw xa xh sb r bw ba bh gs : Nat} {bs : List Nat} {ops : List OpN} {s : StF} {X : Regs} {ws ws0 : List Int} {wt ht ht0 : Nat → Bool}
theorem RunS.below' (h : RunS w0 w eb mb x xw xa xh sb r bw ba bh gs bs ops s X ws ws0 wt ht ht0) (hb : Below w.heap.size w w') : RunS w0 w' eb mb x xw xa xh sb r bw ba bh gs bs ops s X ws ws0 wt ht ht0 where
  ebk := (hb.block eb (Array.getElem?_eq_some_iff.1 h.ebk).1).trans h.ebk
  ma := Row.of_block h.ma (hb.block mb (Row.lt h.ma))
  ra := h.ra.below hb
  st := Row.of_block h.st (hb.block sb (Row.lt h.st))
  r0 := h.r0.below hb
  rows := h.rows.below hb
  below := h.below.trans (hb.mono h.below.size)
  regs := h.regs
  old := h.old
  new := h.new
theorem RunS.apart (h : RunS w0 w eb mb x xw xa xh sb r bw ba bh gs bs ops s X ws ws0 wt ht ht0) : mb ≠ x ∧ mb ≠ xw ∧ mb ≠ xa ∧ mb ≠ xh ∧ x ≠ xw ∧ x ≠ xa ∧ x ≠ xh ∧ xw ≠ xa ∧ xw ≠ xh := by
  obtain ⟨cm, m1, _⟩ := h.ma.ex
  obtain ⟨cw, w1, _⟩ := h.ra.words.ex
  obtain ⟨ca, a1, _⟩ := h.ra.watch.ex
  obtain ⟨ch, h1, _⟩ := h.ra.hit.ex
  obtain ⟨n1, n2, n3, n4, n5⟩ := h.ra.apart
  exact ⟨ne_type m1 h.ra.blk (by decide), ne_type m1 w1 (by decide), ne_type m1 a1 (by decide), ne_type m1 h1 (by decide), n1, n2, n3, n4, n5⟩
theorem RunS.setX (h : RunS w0 w eb mb x xw xa xh sb r bw ba bh gs bs ops s X ws ws0 wt ht ht0) {d : Nat} (hd : d < 64) {v : Int} (hv : Reg32 v) : RunS w0 (w.setCell ⟨mb, d, none⟩ (.int .u32 v)) eb mb x xw xa xh sb r bw ba bh gs bs ops s (updR X d v) ws ws0 wt ht ht0 := by
  obtain ⟨n1, n2, n3, n4, _⟩ := h.apart
  obtain ⟨o1, o2, o3, o4, o5, o6, o7⟩ := h.old
  obtain ⟨p1, p2, p3, p4, p5, p6⟩ := h.new
  have hK := Kept.set w mb d (.int .u32 v)
  refine ⟨(hK.same eb (Array.getElem?_eq_some_iff.1 h.ebk).1 (by omega)).trans h.ebk, MaB.set h.ma hd v, h.ra.kept hK (fun e => n1 e.symm) (fun e => n2 e.symm) (fun e => n3 e.symm) (fun e => n4 e.symm), Row.kept h.st hK (by omega), h.r0.kept hK (by omega) (by omega) (by omega) (by omega), h.rows.of_kept hK (by omega) (fun b hb => by have := o7 b hb; omega), h.below.setCell (p := ⟨mb, d, none⟩) (by show w0.heap.size ≤ mb; omega) _, ?_, h.old, h.new⟩
  intro k
  unfold updR
  split
  · exact hv
  · exact h.regs k
theorem RunS.mem {ws2 : List Int} {ht2 : Nat → Bool} (h : RunS w0 w eb mb x xw xa xh sb r bw ba bh gs bs ops s X ws ws0 wt ht ht0) (hra : RamM w' x xw xa xh ws2 wt ht2) (hK : Kept (fun k => k = xw ∨ k = xh) w w') : RunS w0 w' eb mb x xw xa xh sb r bw ba bh gs bs ops s X ws2 ws0 wt ht2 ht0 := by
  obtain ⟨n1, n2, n3, n4, n5, n6, n7, n8, n9⟩ := h.apart
  obtain ⟨o1, o2, o3, o4, o5, o6, o7⟩ := h.old
  obtain ⟨p1, p2, p3, p4, p5, p6⟩ := h.new
  refine ⟨(hK.same eb (Array.getElem?_eq_some_iff.1 h.ebk).1 (by omega)).trans h.ebk, Row.kept h.ma hK (by rintro (e | e); exact n2 e; exact n4 e), hra, Row.kept h.st hK (by omega), h.r0.kept hK (by omega) (by omega) (by omega) (by omega), h.rows.of_kept hK (by omega) (fun b hb => by have := o7 b hb; omega), ?_, h.regs, h.old, h.new⟩
  have hb := hK.to_below (B := w0.heap.size) h.below.size (fun k hk => by omega)
  exact h.below.trans hb
theorem RunS.drew (h : RunS w0 w eb mb x xw xa xh sb r bw ba bh gs bs ops s X ws ws0 wt ht ht0) : RunS w0 w.drew eb mb x xw xa xh sb r bw ba bh gs bs ops s X ws ws0 wt ht ht0 := h.below' (Below.refl _ _).drew
end
end Go.Proofs.YtadoaldnjnkhgaaGreatDoor
