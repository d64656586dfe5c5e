/- The document's machine of a code: its state, the walk of NewMachine. The walk of the document's sum of an instruction, what they share. Conditions: as each theorem states. -/
import Derived.Test.YtadoaldnjnkhgaaGreatDoorQ19
import Derived.ProofKit
import Derived.StillTailTactics
import Derived.Deep.QuietTactic
set_option linter.unusedVariables false
set_option linter.unusedSimpArgs false
namespace Go.Proofs.YtadoaldnjnkhgaaGreatDoor
open Go.RowKit
structure StF where
  r : Regs
  hi : Int
  lo : Int
  pc : Int
  next : Int
  slot : Bool
  status : Int
  cause : Int
  epc : Int
  bad : Int
  compare : Int
  count : Int
def stG (s : StF) : Nat → Value := fun k => if k < 32 then .int .u32 (s.r k) else match k with
  | 32 => .int .u32 s.hi | 33 => .int .u32 s.lo | 34 => .int .u32 s.pc | 35 => .int .u32 s.next | 36 => .bool s.slot
  | 37 => .int .u32 s.status | 38 => .int .u32 s.cause | 39 => .int .u32 s.epc | 40 => .int .u32 s.bad | 41 => .int .u32 s.compare | _ => .int .i64 s.count
abbrev StB (w : World) (b : Nat) (s : StF) : Prop := Row w b 26 43 (stG s)
theorem StB.reg {w : World} {b : Nat} {s : StF} (h : StB w b s) {k : Nat} (hk : k < 32) : w.cell? ⟨b, k, none⟩ = some (.int .u32 (s.r k)) := by
  have := h.cell (show k < 43 by omega)
  unfold stG at this
  rw [if_pos hk] at this
  exact this
def mcG (X : Regs) (r : Nat) : Nat → Value := fun k => if k < 64 then .int .u32 (X k) else .pointer (some ⟨r, 0, none⟩)
abbrev MaB (w : World) (b : Nat) (X : Regs) (r : Nat) : Prop := Row w b 142 65 (mcG X r)
theorem MaB.reg {w : World} {b r : Nat} {X : Regs} (h : MaB w b X r) {k : Nat} (hk : k < 64) : w.cell? ⟨b, k, none⟩ = some (.int .u32 (X k)) := by
  have := h.cell (show k < 65 by omega)
  unfold mcG at this
  rw [if_pos hk] at this
  exact this
theorem MaB.ram {w : World} {b r : Nat} {X : Regs} (h : MaB w b X r) : w.cell? ⟨b, 64, none⟩ = some (.pointer (some ⟨r, 0, none⟩)) := h.cell (show 64 < 65 by decide)
theorem MaB.set {w : World} {b r : Nat} {X : Regs} (h : MaB w b X r) {k : Nat} (hk : k < 64) (v : Int) : MaB (w.setCell ⟨b, k, none⟩ (.int .u32 v)) b (updR X k v) r := by
  refine (Row.set h k (.int .u32 v)).eqv (fun j hj => ?_)
  unfold mcG updR
  by_cases e : j = k
  · subst e
    rw [if_pos rfl, if_pos hk, if_pos rfl]
  · rw [if_neg e, if_neg e]
theorem MaB.eq {w : World} {b r : Nat} {X Y : Regs} (h : MaB w b X r) (e : ∀ k, k < 64 → X k = Y k) : MaB w b Y r := by
  refine Row.eqv h (fun j hj => ?_)
  unfold mcG
  by_cases e2 : j < 64
  · rw [if_pos e2, if_pos e2, e j e2]
  · rw [if_neg e2, if_neg e2]
def regsOf (s : StF) : Regs := fun k => if k = 0 then 0 else if k < 32 then s.r k else if k = 32 then s.hi else if k = 33 then s.lo else 0
def upX (s : StF) (i : Nat) : Regs := fun k => if 1 ≤ k ∧ k < i then s.r k else 0
theorem upX_step (s : StF) {i : Nat} (h : 1 ≤ i) (k : Nat) : updR (upX s i) i (s.r i) k = upX s (i + 1) k := by
  unfold updR upX
  by_cases e : k = i
  · subst e
    rw [if_pos rfl, if_pos ⟨h, by omega⟩]
  · rw [if_neg e]
    by_cases h2 : 1 ≤ k ∧ k < i
    · rw [if_pos h2, if_pos ⟨h2.1, by omega⟩]
    · rw [if_neg h2, if_neg (by omega)]
theorem regsOf_eq (s : StF) (k : Nat) : updR (updR (upX s 32) 32 s.hi) 33 s.lo k = regsOf s k := by
  unfold updR upX regsOf
  by_cases e0 : k = 0
  · subst e0; rfl
  · rw [if_neg e0]
    by_cases e1 : k < 32
    · rw [if_pos e1, if_neg (by omega), if_neg (by omega), if_pos (by omega)]
    · rw [if_neg e1]
      by_cases e2 : k = 32
      · subst e2; rfl
      · rw [if_neg e2]
        by_cases e3 : k = 33
        · rw [if_pos e3, if_neg e2, if_pos e3]
        · rw [if_neg e3, if_neg e2, if_neg (show ¬ (1 ≤ k ∧ k < 32) by omega), if_neg e3]
theorem Tryz.zeroM : Tryz.zeroCells142.toList = List.replicate 64 (.int .u32 0) ++ [.pointer none] := by kernel_rfl
theorem MaB.new (w : World) (x : Nat) : MaB (w.alloc (.cells (Tryz.zeroCells142.setIfInBounds 64 (.pointer (some ⟨x, 0, none⟩))) 142)) w.heap.size (fun _ => 0) x := by
  have hz := Tryz.zeroM
  have hsz : Tryz.zeroCells142.size = 65 := by
    rw [← Array.length_toList, hz]
    rfl
  refine ⟨_, heap_alloc_new w _, by rw [Array.size_setIfInBounds, hsz], fun k hk => ?_⟩
  rw [Array.getElem?_setIfInBounds]
  unfold mcG
  by_cases e : 64 = k
  · subst e
    rw [if_pos rfl, if_pos (by rw [hsz]; decide), if_neg (by decide)]
  · rw [if_neg e, if_pos (by omega), ← Array.getElem?_toList, hz, List.getElem?_append_left (by rw [List.length_replicate]; omega), List.getElem?_replicate, if_pos (by omega)]
def MadeM (w : World) (s : StF) (ws : List Int) (wt ht : Nat → Bool) (e : Ending) (w' : World) : Prop := ∃ mb r bw ba bh, e = .returned (.pointer (some ⟨mb, 0, none⟩)) ∧ MaB w' mb (regsOf s) r ∧ RamM w' r bw ba bh ws wt ht ∧ Below w.heap.size w w' ∧ w.heap.size ≤ mb ∧ w.heap.size ≤ r ∧ w.heap.size ≤ bw ∧ w.heap.size ≤ ba ∧ w.heap.size ≤ bh
set_option maxHeartbeats 4000000 in
set_option maxRecDepth 100000 in
theorem newMachine_any {w : World} {sb r bw ba bh : Nat} {s : StF} {ws : List Int} {wt ht : Nat → Bool} (hs : StB w sb s) (h : RamM w r bw ba bh ws wt ht) :
    Calls Tryz.prog 57 #[.pointer (some ⟨sb, 0, none⟩), .pointer (some ⟨r, 0, none⟩)] w fun e w' => MadeM w s ws wt ht e w' := by
  have HC := Lib.hid (ramCopy_any h)
  have HS := Lib.hid hs
  clear h hs
  go_enter Tryz.func57, Tryz.ntmps57
  go_wp2_with fail
  refine HC.out.mono ?_
  rintro e w1 ⟨x, xw, xa, xh, rfl, hx, hb, x0, xw0, xa0, xh0⟩
  have HX := Lib.hid hx
  have HB := Lib.hid hb
  have HMB : Hid (w.heap.size ≤ w1.heap.size) := Lib.hid hb.size
  have hAl := (Below.refl w1.heap.size w1).alloc (Nat.le_refl _) (.cells (Tryz.zeroCells142.setIfInBounds 64 (.pointer (some ⟨x, 0, none⟩))) 142)
  have HX1 := Lib.hid (HX.out.below hAl)
  have HB1 := Lib.hid (HB.out.trans (hAl.mono hb.size))
  have HS1 := Lib.hid ((HS.out.of_block (hb.block sb HS.out.lt)).of_block (hAl.block sb (Nat.lt_of_lt_of_le HS.out.lt hb.size)))
  have HM1 := Lib.hid ((MaB.new w1 x).eq (Y := upX s 1) (fun k _ => by unfold upX; rw [if_neg (by omega)]))
  have HSB : Hid (sb < w.heap.size) := Lib.hid HS.out.lt
  obtain ⟨mb, hmb⟩ : ∃ mb, w1.heap.size = mb := ⟨_, rfl⟩
  have HAP := HX.out.lt
  have HXL : Hid (x < w1.heap.size ∧ xw < w1.heap.size ∧ xa < w1.heap.size ∧ xh < w1.heap.size) := Lib.hid ⟨HX.out.lt, HX.out.words.lt, HX.out.watch.lt, HX.out.hit.lt⟩
  clear hx hb hAl HAP
  go_wp2_with fail
  generalize w1.alloc (.cells (Tryz.zeroCells142.setIfInBounds 64 (.pointer (some ⟨x, 0, none⟩))) 142) = W0 at *
  rw [hmb] at HM1 HMB HXL
  clear hmb
  go_loopw [6] (fun v wr => ∃ i : Nat, 1 ≤ i ∧ i ≤ 32 ∧ v = .int .i64 (i : Int) ∧ Hid (MaB wr mb (upX s i) x) ∧ Hid (StB wr sb s) ∧ Hid (RamM wr x xw xa xh ws wt ht) ∧ Hid (Below w.heap.size w wr)) (fun v _ => 32 - (intOf v).toNat)
  case atStart => exact ⟨1, Nat.le_refl _, by decide, rfl, HM1, HS1, HX1, HB1⟩
  case round =>
    obtain ⟨i, i0, i1, rfl, HMi, HSi, HXi, HBi⟩ := hrel
    by_cases hlt : i < 32
    · have hiI : (i : Int) < 32 := by omega
      have hi0 : (1 : Int) ≤ (i : Int) := by omega
      have hi64 : (i : Int) < 64 := by omega
      have hsr := HSi.out.reg hlt
      have hxr := HMi.out.reg (show i < 64 by omega)
      have hxf := HMi.out.free i
      have HM2 := Lib.hid ((MaB.set (HMi.out.of_block (w' := wr.drew) rfl) (show i < 64 by omega) (s.r i)).eq (fun k _ => upX_step s i0 k))
      have HK := Kept.set wr.drew mb i (.int .u32 (s.r i))
      have HS2 := Lib.hid (Row.kept (HSi.out.of_block (w' := wr.drew) rfl) HK (by have := HSB.out; have := HMB.out; omega))
      have HX2 := Lib.hid (HXi.out.drew.kept HK (by have := HXL.out; omega) (by have := HXL.out; omega) (by have := HXL.out; omega) (by have := HXL.out; omega))
      have HB2 := Lib.hid (HBi.out.drew.setCell (p := ⟨mb, i, none⟩) HMB.out (.int .u32 (s.r i)))
      have HI := Lib.hid hlt
      generalize s.r i = v at *
      generalize upX s i i = u0 at *
      go_wp2_with fail
      go_still_tail 11, (by kernel_rfl)
      change wpList _ _ _ _ _ wr.drew
      have hxrd : wr.drew.cell? ⟨mb, i, none⟩ = some _ := hxr
      have hxfd : wr.drew.frozen? ⟨mb, i, none⟩ = false := hxf
      generalize wr.drew = wd at *
      clear hsr hxr hxf HK
      go_wp2
      refine ⟨⟨i + 1, by omega, by have := HI.out; omega, by go_num, HM2, HS2, HX2, HB2⟩, ?_⟩
      simp [intOf]
      have := HI.out
      omega
    · obtain rfl : i = 32 := by omega
      have hsr := HSi.out.cell (show 32 < 43 by decide)
      have hxr := HMi.out.reg (show 32 < 64 by decide)
      have hxf := HMi.out.free 32
      have HM2 := Lib.hid (MaB.set (HMi.out.of_block (w' := wr.drew) rfl) (show 32 < 64 by decide) s.hi)
      have HK := Kept.set wr.drew mb 32 (.int .u32 s.hi)
      have HS2 := Lib.hid (Row.kept (HSi.out.of_block (w' := wr.drew) rfl) HK (by have := HSB.out; have := HMB.out; omega))
      have HX2 := Lib.hid (HXi.out.drew.kept HK (by have := HXL.out; omega) (by have := HXL.out; omega) (by have := HXL.out; omega) (by have := HXL.out; omega))
      have HB2 := Lib.hid (HBi.out.drew.setCell (p := ⟨mb, 32, none⟩) HMB.out (.int .u32 s.hi))
      have hsr2 : wr.cell? ⟨sb, 32, none⟩ = some (.int .u32 s.hi) := hsr
      clear hsr
      go_wp2_with fail
      go_still_tail 8, (by kernel_rfl)
      change wpList _ _ _ _ _ wr.drew
      have hxrd : wr.drew.cell? ⟨mb, 32, none⟩ = some _ := hxr
      have hxfd : wr.drew.frozen? ⟨mb, 32, none⟩ = false := hxf
      generalize wr.drew = wd at *
      clear hsr2 hxr hxf HK
      go_wp2_with fail
      clear hxrd hxfd
      generalize wd.setCell ⟨mb, 32, none⟩ (.int .u32 s.hi) = W5 at *
      have hsr := HS2.out.cell (show 33 < 43 by decide)
      have hsr2 : W5.cell? ⟨sb, 33, none⟩ = some (.int .u32 s.lo) := hsr
      have hxr := HM2.out.reg (show 33 < 64 by decide)
      have hxf := HM2.out.free 33
      have HM3 := Lib.hid ((MaB.set (HM2.out.of_block (w' := W5.drew) rfl) (show 33 < 64 by decide) s.lo).eq (fun k _ => regsOf_eq s k))
      have HK := Kept.set W5.drew mb 33 (.int .u32 s.lo)
      have HX3 := Lib.hid (HX2.out.drew.kept HK (by have := HXL.out; omega) (by have := HXL.out; omega) (by have := HXL.out; omega) (by have := HXL.out; omega))
      have HB3 := Lib.hid (HB2.out.drew.setCell (p := ⟨mb, 33, none⟩) HMB.out (.int .u32 s.lo))
      clear hsr
      go_still_tail 8, (by kernel_rfl)
      change wpList _ _ _ _ _ W5.drew
      have hxrd : W5.drew.cell? ⟨mb, 33, none⟩ = some _ := hxr
      have hxfd : W5.drew.frozen? ⟨mb, 33, none⟩ = false := hxf
      generalize W5.drew = wd6 at *
      clear hsr2 hxr hxf HK
      go_wp2
      go_ret
      exact ⟨mb, x, xw, xa, xh, rfl, HM3.out, HX3.out, HB3.out, HMB.out, x0, xw0, xa0, xh0⟩
end Go.Proofs.YtadoaldnjnkhgaaGreatDoor
namespace Go.Proofs.YtadoaldnjnkhgaaGreatDoor
open Go.RowKit
def SumTo (w : World) (sb : Nat) (s : StF) (r : Regs) (hi lo : Int) (e : Ending) (w' : World) : Prop := e = .returned (.int .i64 (-1)) ∧ StB w' sb { s with r := r, hi := hi, lo := lo } ∧ Kept (fun k => k = sb) w w'
def SumOv (w : World) (sb : Nat) (s : StF) (e : Ending) (w' : World) : Prop := e = .returned (.int .i64 12) ∧ StB w' sb s ∧ Kept (fun k => k = sb) w w'
theorem StB.setReg {w : World} {sb : Nat} {s : StF} (h : StB w sb s) {d : Nat} (hd : d < 32) (v : Int) : StB (w.setCell ⟨sb, d, none⟩ (.int .u32 v)) sb { s with r := updR s.r d v } :=
  (Row.set h d (.int .u32 v)).eqv (fun j hj => by
    unfold stG updR
    by_cases e : j = d
    · rw [if_pos e, if_pos (by omega)]; dsimp only; rw [if_pos e]
    · rw [if_neg e]
      by_cases e2 : j < 32
      · rw [if_pos e2, if_pos e2]; dsimp only; rw [if_neg e]
      · rw [if_neg e2, if_neg e2])
theorem StB.setHi {w : World} {sb : Nat} {s : StF} (h : StB w sb s) (v : Int) : StB (w.setCell ⟨sb, 32, none⟩ (.int .u32 v)) sb { s with hi := v } :=
  (Row.set h 32 (.int .u32 v)).eqv (fun j hj => by
    by_cases e : j = 32
    · subst e; rfl
    · rw [if_neg e]
      unfold stG
      split
      · rfl
      · split <;> first | rfl | exact absurd rfl e)
theorem StB.setLo {w : World} {sb : Nat} {s : StF} (h : StB w sb s) (v : Int) : StB (w.setCell ⟨sb, 33, none⟩ (.int .u32 v)) sb { s with lo := v } :=
  (Row.set h 33 (.int .u32 v)).eqv (fun j hj => by
    by_cases e : j = 33
    · subst e; rfl
    · rw [if_neg e]
      unfold stG
      split
      · rfl
      · split <;> first | rfl | exact absurd rfl e)
theorem StB.drew {w : World} {sb : Nat} {s : StF} (h : StB w sb s) : StB w.drew sb s := h.of_block rfl
theorem InsB.drew {w : World} {b op s t d : Nat} {m : Int} (h : InsB w b op s t d m) : InsB w.drew b op s t d m := h
end Go.Proofs.YtadoaldnjnkhgaaGreatDoor
