/- ir's machine: its state, the walk of NewMachine. The walks of ir's Leaves, Where, Ready, Value, do. The document's steps in plain words, and that they go as walkZ says. No program in sight. The walks of the document's NewBus and Hits. Conditions: as each theorem states. -/
import Derived.Test.YtadoaldnjnkhgaaGreatDoorQ19
import Derived.Test.YtadoaldnjnkhgaaGreatDoorQ29
import Derived.Test.YtadoaldnjnkhgaaGreatDoorQ28
import Derived.Deep.RegionHeld3
import Derived.Laws.CopyOwn
import Derived.StillTailTactics
import Derived.BigRegion
import Derived.Test.YtadoaldnjnkhgaaGreatDoorQ20
import Derived.Maps.OwnRows
set_option linter.unusedVariables false
set_option linter.unusedSimpArgs false
namespace Go.Proofs.YtadoaldnjnkhgaaGreatDoor
open Go.RowKit
def mpG (X : Regs) (rv wv : Value) : Nat → Value := fun k => if k < 64 then .int .u32 (X k) else if k = 64 then rv else wv
abbrev MpB (w : World) (b : Nat) (X : Regs) (rv wv : Value) : Prop := Row w b 109 66 (mpG X rv wv)
theorem MpB.reg {w : World} {b : Nat} {X : Regs} {rv wv : Value} (h : MpB w b X rv wv) {k : Nat} (hk : k < 64) : w.cell? ⟨b, k, none⟩ = some (.int .u32 (X k)) := by
  have := h.cell (show k < 66 by omega)
  unfold mpG at this
  rw [if_pos hk] at this
  exact this
theorem MpB.set {w : World} {b : Nat} {X : Regs} {rv wv : Value} (h : MpB w b X rv wv) {k : Nat} (hk : k < 64) (v : Int) : MpB (w.setCell ⟨b, k, none⟩ (.int .u32 v)) b (updR X k v) rv wv := by
  refine (Row.set h k (.int .u32 v)).eqv (fun j hj => ?_)
  unfold mpG updR
  by_cases e : j = k
  · subst e
    rw [if_pos rfl, if_pos hk, if_pos rfl]
  · rw [if_neg e, if_neg e]
theorem MpB.eq {w : World} {b : Nat} {X Y : Regs} {rv wv : Value} (h : MpB w b X rv wv) (e : ∀ k, k < 64 → X k = Y k) : MpB w b Y rv wv := by
  refine Row.eqv h (fun j hj => ?_)
  unfold mpG
  by_cases e2 : j < 64
  · rw [if_pos e2, if_pos e2, e j e2]
  · rw [if_neg e2, if_neg e2]
theorem Tryz.zeroMp : Tryz.zeroCells109.toList = List.replicate 64 (.int .u32 0) ++ [.pointer none, .slice none 0 0] := by kernel_rfl
theorem MpB.new (w : World) (rv : Value) : MpB (w.alloc (.cells (Tryz.zeroCells109.setIfInBounds 64 rv) 109)) w.heap.size (fun _ => 0) rv (.slice none 0 0) := by
  have hz := Tryz.zeroMp
  have hsz : Tryz.zeroCells109.size = 66 := by
    rw [← Array.length_toList, hz]
    rfl
  refine ⟨_, heap_alloc_new w _, by rw [Array.size_setIfInBounds, hsz], fun k hk => ?_⟩
  rw [Array.getElem?_setIfInBounds]
  unfold mpG
  by_cases e : 64 = k
  · subst e
    rw [if_pos rfl, if_pos (by rw [hsz]; decide), if_neg (by decide), if_pos rfl]
  · rw [if_neg e, ← Array.getElem?_toList, hz]
    by_cases e2 : k < 64
    · rw [if_pos e2, List.getElem?_append_left (by rw [List.length_replicate]; omega), List.getElem?_replicate, if_pos e2]
    · obtain rfl : k = 65 := by omega
      rfl
def regsP (s : StF) : Regs := fun k => if k < 32 then s.r k else if k = 32 then s.hi else if k = 33 then s.lo else 0
theorem Tryz.infoU32 : (Tryz.prog.info? 22).map (·.size) = some 1 := by kernel_rfl
theorem wpList_copy_row {P : Program} {w : World} {ops : Array Oper} {rest : List Oper} {o : Oper} {a : Act} {Q : Exit → Act → World → Prop} (hgd : o.guard = none) (d s : Operand) (dT sT : TypeId)
    (ho : o.op = .call { callee := .builtin .copy, args := #[d, s], argTypes := #[dT, sT] }) (elem : TypeId) (hu : P.underlying dT = some (.slice elem)) (hsz : (P.info? elem).map (·.size) = some 1)
    (g off dLen dCap : Nat) (ad : Addr) (sLen sCap : Nat) (hd : a.eval d = .slice (some ⟨g, off, none⟩) dLen dCap) (hs : a.eval s = .slice (some ad) sLen sCap)
    (t : TypeId) (n : Nat) (f : Nat → Value) (hR : Row w g t n f) (cs : List Value) (hn : cs.length = Nat.min sLen dLen)
    (hsrc : ∀ j v, cs[j]? = some v → w.cell? (ad.add j) = some v) (hfit : off + cs.length ≤ n) (h1 : ∀ v ∈ cs, v.oneCell' = true)
    (h : ∀ w', Row w' g t n (fun k => if off ≤ k ∧ k < off + cs.length then cs.getD (k - off) (f k) else f k) → Kept (fun k => k = g) w w' → wpList P ops Q rest (a.put o.dst (goInt cs.length)) w') : wpList P ops Q (o :: rest) a w := by
  obtain ⟨cur, h1c, h2c, h3c⟩ := hR.ex
  refine wpList_copy_own hgd d s dT sT ho elem hu hsz g off dLen dCap ad sLen sCap hd hs cur t h1c cs hn hsrc (by rw [h2c]; exact hfit) h1 (h _ ?_ ?_)
  · refine ⟨_, setRow_heap w g _ _ t _ h1c, by simp; omega, fun k hk => ?_⟩
    rw [← Array.getElem?_toList, List.toList_toArray]
    have hl : cur.toList.length = n := by rw [Array.length_toList, h2c]
    have hcur : cur.toList[k]? = some (f k) := by rw [Array.getElem?_toList]; exact h3c k hk
    by_cases e1 : k < off
    · rw [List.getElem?_append_left (by rw [List.length_take]; omega), List.getElem?_take, if_pos e1, hcur, if_neg (by omega)]
    · rw [List.getElem?_append_right (by rw [List.length_take]; omega), List.length_take, show min off cur.toList.length = off by omega]
      by_cases e2 : k < off + cs.length
      · have e3 : off ≤ k ∧ k < off + cs.length := ⟨by omega, e2⟩
        have e4 : k - off < cs.length := by omega
        rw [List.getElem?_append_left e4, if_pos e3, List.getD_eq_getElem?_getD, List.getElem?_eq_getElem e4]
        rfl
      · rw [List.getElem?_append_right (by omega), List.getElem?_drop, if_neg (by omega), ← hcur]
        congr 1
        omega
  · exact ⟨⟨rfl, rfl, rfl, by simp [World.setRow], fun k hk => absurd hk (Nat.not_lt_zero k)⟩, fun k hk e => setRow_other w g k _ e⟩
section
variable {s : StF}
def regL (X : Regs) (n : Nat) : List Value := (List.range n).map fun k => .int .u32 (X k)
theorem regL_len (X : Regs) (n : Nat) : (regL X n).length = n := by simp [regL]
theorem regL_at (X : Regs) {n k : Nat} (hk : k < n) : (regL X n)[k]? = some (.int .u32 (X k)) := by simp [regL, hk]
set_option maxHeartbeats 4000000 in
set_option maxRecDepth 100000 in
theorem newMachineP_any {w : World} {sb r : Nat} (hs : StB w sb s) :
    Calls Tryz.prog 38 #[.pointer (some ⟨sb, 0, none⟩), .pointer (some ⟨r, 0, none⟩)] w fun e w' => ∃ mb, e = .returned (.pointer (some ⟨mb, 0, none⟩)) ∧ w.heap.size ≤ mb ∧ MpB w' mb (regsP s) (.pointer (some ⟨r, 0, none⟩)) (.slice none 0 0) ∧ Below w.heap.size w w' := by
  have hb := (Below.refl w.heap.size w).alloc (Nat.le_refl _) (.cells (Tryz.zeroCells109.setIfInBounds 64 (.pointer (some ⟨r, 0, none⟩))) 109)
  have HB := Lib.hid hb
  have HS := Lib.hid (show StB (w.alloc (.cells (Tryz.zeroCells109.setIfInBounds 64 (.pointer (some ⟨r, 0, none⟩))) 109)) sb s from hs.of_block (hb.block sb hs.lt))
  have HM := Lib.hid (MpB.new w (.pointer (some ⟨r, 0, none⟩)))
  have HLT := Lib.hid hs.lt
  clear hs hb
  go_enter Tryz.func38, Tryz.ntmps38
  go_wp2_with fail
  generalize w.alloc (.cells (Tryz.zeroCells109.setIfInBounds 64 (.pointer (some ⟨r, 0, none⟩))) 109) = W at *
  generalize Tryz.zeroCells109.setIfInBounds 64 (.pointer (some ⟨r, 0, none⟩)) = zc at *
  have HS1 := Lib.hid (StB.drew HS.out)
  have HM1 := Lib.hid (show MpB W.drew w.heap.size (fun _ => 0) (.pointer (some ⟨r, 0, none⟩)) (.slice none 0 0) from HM.out.of_block rfl)
  have HB1 := Lib.hid (HB.out.trans ((Below.refl W.heap.size W).drew.mono HB.out.size))
  go_still_tail 8, (by kernel_rfl)
  change wpList _ _ _ _ _ W.drew
  clear HS HM HB
  generalize W.drew = W1 at *
  refine wpList_copy_row rfl (.tmp 12) (.tmp 16) 27 27 rfl 22 Tryz.underlying27 Tryz.infoU32 w.heap.size 0 64 64 ⟨sb, 0, none⟩ 32 32 rfl rfl 109 66 _ HM1.out (regL s.r 32) (by rw [regL_len]; rfl) ?_ (by rw [regL_len]; decide) ?_ ?_
  · intro j v hj
    have hlt : j < 32 := by have := (List.getElem?_eq_some_iff.1 hj).1; rwa [regL_len] at this
    rw [regL_at s.r hlt] at hj
    cases hj
    rw [addr_add]
    exact HS1.out.reg hlt
  · intro v hv
    obtain ⟨k, _, rfl⟩ := List.mem_map.1 hv
    rfl
  intro w2 hR2 hK2
  have HM2 := Lib.hid (show MpB w2 w.heap.size (fun k => if k < 32 then s.r k else 0) (.pointer (some ⟨r, 0, none⟩)) (.slice none 0 0) from hR2.eqv (fun k hk => by
    rw [regL_len]
    unfold mpG
    by_cases e : k < 32
    · have h1 : 0 ≤ k ∧ k < 0 + 32 := ⟨Nat.zero_le _, by omega⟩
      have h2 : k < 64 := by omega
      rw [if_pos h1, if_pos h2, if_pos h2, Nat.sub_zero, List.getD_eq_getElem?_getD, regL_at s.r e]
      dsimp only
      rw [if_pos e]
      rfl
    · have h1 : ¬ (0 ≤ k ∧ k < 0 + 32) := by omega
      rw [if_neg h1]
      by_cases e2 : k < 64
      · rw [if_pos e2, if_pos e2]
        dsimp only
        rw [if_neg e]
      · rw [if_neg e2, if_neg e2]))
  have HS2 := Lib.hid (show StB w2 sb s from Row.kept HS1.out hK2 (by have := HLT.out; omega))
  have HB2 := Lib.hid (HB1.out.trans (hK2.to_below (by have := HB1.out.size; omega) (fun k hk e => by omega)))
  clear hR2 hK2 HS1 HM1 HB1
  go_wp2_with fail
  have HNE : Hid (sb ≠ w.heap.size) := Lib.hid (by have := HLT.out; omega)
  have a0 : w2.cell? ⟨sb, 32, none⟩ = some (.int .u32 s.hi) := HS2.out.cell (show 32 < 43 by decide)
  have a1 : w2.cell? ⟨sb, 33, none⟩ = some (.int .u32 s.lo) := HS2.out.cell (show 33 < 43 by decide)
  have HM3 := Lib.hid (show MpB w2.drew w.heap.size (fun k => if k < 32 then s.r k else 0) (.pointer (some ⟨r, 0, none⟩)) (.slice none 0 0) from HM2.out.of_block rfl)
  have HM4 := Lib.hid (HM3.out.set (show 32 < 64 by decide) s.hi)
  have HM5 := Lib.hid ((HM4.out.set (show 33 < 64 by decide) s.lo).eq (Y := regsP s) (fun k hk => by
    unfold regsP updR
    by_cases e33 : k = 33
    · subst e33; rfl
    · rw [if_neg e33]
      by_cases e32 : k = 32
      · subst e32; rfl
      · rw [if_neg e32]
        dsimp only
        by_cases e : k < 32
        · rw [if_pos e, if_pos e]
        · rw [if_neg e, if_neg e, if_neg e32, if_neg e33]))
  have z0 := HM2.out.reg (show 32 < 64 by decide)
  have z0f := HM2.out.free 32
  have z1 := HM2.out.reg (show 33 < 64 by decide)
  have z1f := HM2.out.free 33
  have HB5 := Lib.hid (((HB2.out.trans ((Below.refl w2.heap.size w2).drew.mono HB2.out.size)).setCell (p := ⟨w.heap.size, 32, none⟩) (Nat.le_refl _) (.int .u32 s.hi)).setCell (p := ⟨w.heap.size, 33, none⟩) (Nat.le_refl _) (.int .u32 s.lo))
  clear HS2 HM2 HB2
  refine wp_region_held_drew (S := fun w' => (w'.cell? ⟨sb, 32, none⟩ = some (.int .u32 s.hi) ∧ w'.cell? ⟨sb, 33, none⟩ = some (.int .u32 s.lo))) (by kernel_rfl) ?_ (fun hHeld0 => ?_)
  · exact ⟨a0, a1⟩
  refine wpAnyH_take (i := 0) (v := ?_) rfl (by kernel_rfl) (by kernel_rfl) (by kernel_rfl) (fun _ _ _ h => h) (Or.inl ⟨by kernel_rfl, ?_⟩) (by assumption) ?_
  rotate_left
  · (intro wq hSq; (try dsimp only at hSq); go_simp; try with_reducible rfl)
  (try simp only [List.getElem_toArray, List.getElem_cons_succ, List.getElem_cons_zero, Act.put, List.setIfInBounds_toArray, List.set_cons_zero, List.set_cons_succ])
  refine wpAnyH_take (i := 1) (v := ?_) rfl (by kernel_rfl) (by kernel_rfl) (by kernel_rfl) (fun _ _ _ h => h) (Or.inl ⟨by kernel_rfl, ?_⟩) (by assumption) ?_
  rotate_left
  · (intro wq hSq; (try dsimp only at hSq); go_simp; try with_reducible rfl)
  (try simp only [List.getElem_toArray, List.getElem_cons_succ, List.getElem_cons_zero, Act.put, List.setIfInBounds_toArray, List.set_cons_zero, List.set_cons_succ])
  refine wpAnyH_take (i := 2) (v := ?_) rfl (by kernel_rfl) (by kernel_rfl) (by kernel_rfl) (fun _ _ _ h => h) (Or.inl ⟨by kernel_rfl, ?_⟩) (by assumption) ?_
  rotate_left
  · (intro wq hSq; (try dsimp only at hSq); go_simp; try with_reducible rfl)
  (try simp only [List.getElem_toArray, List.getElem_cons_succ, List.getElem_cons_zero, Act.put, List.setIfInBounds_toArray, List.set_cons_zero, List.set_cons_succ])
  refine wpAnyH_take (i := 3) (v := ?_) rfl (by kernel_rfl) (by kernel_rfl) (by kernel_rfl) (fun _ _ _ h => h) (Or.inl ⟨by kernel_rfl, ?_⟩) (by assumption) ?_
  rotate_left
  · (intro wq hSq; (try dsimp only at hSq); go_simp; try with_reducible rfl)
  (try simp only [List.getElem_toArray, List.getElem_cons_succ, List.getElem_cons_zero, Act.put, List.setIfInBounds_toArray, List.set_cons_zero, List.set_cons_succ])
  refine wpAnyH_take (i := 4) (v := ?_) rfl (by kernel_rfl) (by kernel_rfl) (by kernel_rfl) (fun _ _ _ h => h) (Or.inl ⟨by kernel_rfl, ?_⟩) (by assumption) ?_
  rotate_left
  · (intro wq hSq; (try dsimp only at hSq); go_simp; try with_reducible rfl)
  (try simp only [List.getElem_toArray, List.getElem_cons_succ, List.getElem_cons_zero, Act.put, List.setIfInBounds_toArray, List.set_cons_zero, List.set_cons_succ])
  refine wpAnyH_take (i := 5) (v := ?_) rfl (by kernel_rfl) (by kernel_rfl) (by kernel_rfl) (fun _ _ _ h => h) (Or.inl ⟨by kernel_rfl, ?_⟩) (by assumption) ?_
  rotate_left
  · (intro wq hSq; (try dsimp only at hSq); go_simp; try with_reducible rfl)
  (try simp only [List.getElem_toArray, List.getElem_cons_succ, List.getElem_cons_zero, Act.put, List.setIfInBounds_toArray, List.set_cons_zero, List.set_cons_succ])
  refine wpAnyH_take (i := 6) (v := ?_) rfl (by kernel_rfl) (by kernel_rfl) (by kernel_rfl) (fun _ _ _ h => h) (Or.inl ⟨by kernel_rfl, ?_⟩) (by assumption) ?_
  rotate_left
  · (intro wq hSq; (try dsimp only at hSq); go_simp; try with_reducible rfl)
  (try simp only [List.getElem_toArray, List.getElem_cons_succ, List.getElem_cons_zero, Act.put, List.setIfInBounds_toArray, List.set_cons_zero, List.set_cons_succ])
  refine wpAnyH_take (i := 7) (v := ?_) rfl (by kernel_rfl) (by kernel_rfl) (by kernel_rfl) (fun _ _ _ h => h) (Or.inl ⟨by kernel_rfl, ?_⟩) (by assumption) ?_
  rotate_left
  · (intro wq hSq; (try dsimp only at hSq); go_simp; try with_reducible rfl)
  (try simp only [List.getElem_toArray, List.getElem_cons_succ, List.getElem_cons_zero, Act.put, List.setIfInBounds_toArray, List.set_cons_zero, List.set_cons_succ])
  refine wpAnyH_take (i := 8) (v := ?_) rfl (by kernel_rfl) (by kernel_rfl) (by kernel_rfl) (fun _ _ _ h => h) (Or.inl ⟨by kernel_rfl, ?_⟩) (by assumption) ?_
  rotate_left
  · (intro wq hSq; (try dsimp only at hSq); go_simp; try with_reducible rfl)
  (try simp only [List.getElem_toArray, List.getElem_cons_succ, List.getElem_cons_zero, Act.put, List.setIfInBounds_toArray, List.set_cons_zero, List.set_cons_succ])
  refine wpAnyH_take (i := 9) (v := ?_) rfl (by kernel_rfl) (by kernel_rfl) (by kernel_rfl) (fun _ _ _ h => h) (Or.inl ⟨by kernel_rfl, ?_⟩) (by assumption) ?_
  rotate_left
  · (intro wq hSq; (try dsimp only at hSq); go_simp; try with_reducible rfl)
  (try simp only [List.getElem_toArray, List.getElem_cons_succ, List.getElem_cons_zero, Act.put, List.setIfInBounds_toArray, List.set_cons_zero, List.set_cons_succ])
  refine wpAnyH_take (i := 10) (v := ?_) rfl (by kernel_rfl) (by kernel_rfl) (by kernel_rfl) (fun _ _ _ h => h) (Or.inl ⟨by kernel_rfl, ?_⟩) (by assumption) ?_
  rotate_left
  · (intro wq hSq; (try dsimp only at hSq); go_simp; try with_reducible rfl)
  (try simp only [List.getElem_toArray, List.getElem_cons_succ, List.getElem_cons_zero, Act.put, List.setIfInBounds_toArray, List.set_cons_zero, List.set_cons_succ])
  refine wpAnyH_take (i := 11) (v := ?_) rfl (by kernel_rfl) (by kernel_rfl) (by kernel_rfl) (fun _ _ _ h => h) (Or.inl ⟨by kernel_rfl, ?_⟩) (by assumption) ?_
  rotate_left
  · (intro wq hSq; (try dsimp only at hSq); go_simp; try with_reducible rfl)
  (try simp only [List.getElem_toArray, List.getElem_cons_succ, List.getElem_cons_zero, Act.put, List.setIfInBounds_toArray, List.set_cons_zero, List.set_cons_succ])
  refine wpAnyH_take (i := 12) (v := ?_) rfl (by kernel_rfl) (by kernel_rfl) (by kernel_rfl) (fun _ _ _ h => h) (Or.inl ⟨by kernel_rfl, ?_⟩) (by assumption) ?_
  rotate_left
  · (intro wq hSq; (try dsimp only at hSq); go_simp; try with_reducible rfl)
  (try simp only [List.getElem_toArray, List.getElem_cons_succ, List.getElem_cons_zero, Act.put, List.setIfInBounds_toArray, List.set_cons_zero, List.set_cons_succ])
  refine wpAnyH_take (i := 14) (v := ?_) rfl (by kernel_rfl) (by kernel_rfl) (by kernel_rfl) (fun _ _ _ h => h) (Or.inl ⟨by kernel_rfl, ?_⟩) (by assumption) ?_
  rotate_left
  · (intro wq hSq; (try dsimp only at hSq); go_simp; try with_reducible rfl)
  (try simp only [List.getElem_toArray, List.getElem_cons_succ, List.getElem_cons_zero, Act.put, List.setIfInBounds_toArray, List.set_cons_zero, List.set_cons_succ])
  refine wpAnyH_take (i := 15) (v := ?_) rfl (by kernel_rfl) (by kernel_rfl) (by kernel_rfl) (fun _ _ _ h => h) (Or.inl ⟨by kernel_rfl, ?_⟩) (by assumption) ?_
  rotate_left
  · (intro wq hSq; (try dsimp only at hSq); go_simp; try with_reducible rfl)
  (try simp only [List.getElem_toArray, List.getElem_cons_succ, List.getElem_cons_zero, Act.put, List.setIfInBounds_toArray, List.set_cons_zero, List.set_cons_succ])
  refine wpAnyH_ready (rs := [13]) (by kernel_rfl) (by simp) ?_
  refine AllReadyH.cons rfl (fun K9 hK9 => ?_) AllReadyH.nil
  go_simp
  refine hK9.out _ _ ?_ (fun hHeld1 => ?_)
  · exact ⟨(cell_setCell_block _ _ _ _ HNE.out).trans hHeld0.1, (cell_setCell_block _ _ _ _ HNE.out).trans hHeld0.2⟩
  clear hK9 K9
  (try simp only [List.getElem_toArray, List.getElem_cons_succ, List.getElem_cons_zero, Act.put, List.setIfInBounds_toArray, List.set_cons_zero, List.set_cons_succ])
  refine wpAnyH_take (i := 16) (v := ?_) rfl (by kernel_rfl) (by kernel_rfl) (by kernel_rfl) (fun _ _ _ h => h) (Or.inl ⟨by kernel_rfl, ?_⟩) (by assumption) ?_
  rotate_left
  · (intro wq hSq; (try dsimp only at hSq); go_simp; try with_reducible rfl)
  (try simp only [List.getElem_toArray, List.getElem_cons_succ, List.getElem_cons_zero, Act.put, List.setIfInBounds_toArray, List.set_cons_zero, List.set_cons_succ])
  refine wpAnyH_ready (rs := [17]) (by kernel_rfl) (by simp) ?_
  refine AllReadyH.cons rfl (fun K9 hK9 => ?_) AllReadyH.nil
  go_simp
  refine hK9.out _ _ ?_ (fun hHeld2 => ?_)
  · exact ⟨(cell_setCell_block _ _ _ _ HNE.out).trans hHeld1.1, (cell_setCell_block _ _ _ _ HNE.out).trans hHeld1.2⟩
  clear hK9 K9
  (try simp only [List.getElem_toArray, List.getElem_cons_succ, List.getElem_cons_zero, Act.put, List.setIfInBounds_toArray, List.set_cons_zero, List.set_cons_succ])
  refine wpAnyH_done (by kernel_rfl) ?_ _
  go_wp2
  go_ret
  exact ⟨w.heap.size, rfl, Nat.le_refl _, HM5.out, HB5.out⟩
end
end Go.Proofs.YtadoaldnjnkhgaaGreatDoor
namespace Go.Proofs.YtadoaldnjnkhgaaGreatDoor
open Go.RowKit
def leavesK (k : OpK) : Bool := match k with | .cond => true | .out => true | .outr => true | _ => false
theorem irLeaves_any (k : OpK) (w : World) : Calls Tryz.prog 39 #[.string (bsl k.text)] w fun e w' => e = .returned (.bool (leavesK k)) ∧ w = w' := by
  rw [lit_text]
  cases k <;> simp only [OpK.lit, leavesK] <;> (go_enter Tryz.func39, Tryz.ntmps39; go_wp2; go_ret; exact ⟨rfl, rfl⟩)
theorem irDiv_add (w : World) : Calls Tryz.prog 117 #[.string ⟨#[97, 100, 100]⟩] w fun e w' => e = .returned (.bool false) ∧ w = w' := irDiv_any .add w
theorem irWhere_out {d a n : Nat} {b im : Int} (x : Int) (w : World) : Calls Tryz.prog 40 #[.agg #[.string ⟨#[111, 117, 116]⟩, .int .i64 (d : Int), .int .i64 (a : Int), .int .i64 b, .int .u32 im, .int .i64 (n : Int)], .int .u32 x] w fun e w' => e = .returned (.tuple #[.int .u32 im, .bool true]) ∧ Below w.heap.size w w' := by
  have HB := Lib.hid ((Below.refl w.heap.size w).alloc (Nat.le_refl _) (.cells #[.string ⟨#[111, 117, 116]⟩, .int .i64 (d : Int), .int .i64 (a : Int), .int .i64 b, .int .u32 im, .int .i64 (n : Int)] 86))
  go_enter Tryz.func40, Tryz.ntmps40
  go_wp2
  go_quiet (fail)
  go_wp2
  go_ret2
  exact ⟨rfl, HB.out.trans ((blw_drewN (Below.refl _ _) _).mono HB.out.size)⟩
theorem irReady_yes {w : World} {sb : Nat} {s : StF} (h : StB w sb s) (hp : s.slot = false) (hn : s.next = (s.pc + 4) % 4294967296) :
    Calls Tryz.prog 37 #[.pointer (some ⟨sb, 0, none⟩), .int .u32 s.pc] w fun e w' => e = .returned (.bool true) ∧ w = w' := by
  have c0 : w.cell? ⟨sb, 36, none⟩ = some (.bool false) := by have := h.cell (show 36 < 43 by decide); rw [this, ← hp]; rfl
  have c1 : w.cell? ⟨sb, 34, none⟩ = some (.int .u32 s.pc) := h.cell (show 34 < 43 by decide)
  have c2 : w.cell? ⟨sb, 35, none⟩ = some (.int .u32 ((s.pc + 4) % 4294967296)) := by have := h.cell (show 35 < 43 by decide); rw [this, ← hn]; rfl
  clear h hp hn
  generalize s.pc = p at *
  go_enter Tryz.func37, Tryz.ntmps37
  go_wp2
  go_ret
  exact ⟨by simp, rfl⟩
theorem irValue_add (a b d : Int) (w : World) : Calls Tryz.prog 74 #[.string ⟨#[97, 100, 100]⟩, .int .u32 a, .int .u32 b, .int .u32 d] w fun e w' => e = .returned (.int .u32 ((a + b) % 4294967296)) ∧ w = w' := by
  have HS : Hid (∀ wx, Calls Tryz.prog 118 #[.string ⟨#[97, 100, 100]⟩, .int .u32 a, .int .u32 b] wx fun e w' => e = .returned (.int .u32 ((a + b) % 4294967296)) ∧ wx = w') := by
    refine Lib.hid ?_
    intro wx
    go_enter Tryz.func118, Tryz.ntmps118
    go_wp2
    go_ret
    exact ⟨rfl, rfl⟩
  go_enter Tryz.func74, Tryz.ntmps74
  go_wp2_with fail
  refine (irDiv_add _).mono ?_
  rintro e w1 ⟨rfl, rfl⟩
  go_wp2_with fail
  refine (HS.out _).mono ?_
  rintro e w1 ⟨rfl, rfl⟩
  go_wp2
  go_ret
  exact ⟨rfl, rfl⟩
set_option maxHeartbeats 4000000 in
set_option maxRecDepth 100000 in
theorem doP_set {w : World} {mb d a n : Nat} {b im : Int} {X : Regs} {rv wv : Value} (h : MpB w mb X rv wv) (hd : d < 64) (ha : a < 64) (hb0 : 0 ≤ b) (hb1 : b < 64) :
    Calls Tryz.prog 42 #[.pointer (some ⟨mb, 0, none⟩), .agg #[.string ⟨#[115, 101, 116]⟩, .int .i64 (d : Int), .int .i64 (a : Int), .int .i64 b, .int .u32 im, .int .i64 (n : Int)]] w fun e w' => e = .returned (.bool true) ∧ MpB w' mb (updR X d (im)) rv wv ∧ Kept (fun k => k = mb) w w' := by
  obtain ⟨bn, rfl⟩ := Int.eq_ofNat_of_zero_le hb0
  have hbn : bn < 64 := by omega
  have hb' := (Below.refl w.heap.size w).alloc (Nat.le_refl _) (.cells #[.string ⟨#[115, 101, 116]⟩, .int .i64 (d : Int), .int .i64 (a : Int), .int .i64 (bn : Int), .int .u32 im, .int .i64 (n : Int)] 86)
  have HM0 : Hid (MpB (w.alloc (.cells #[.string ⟨#[115, 101, 116]⟩, .int .i64 (d : Int), .int .i64 (a : Int), .int .i64 (bn : Int), .int .u32 im, .int .i64 (n : Int)] 86)) mb X rv wv) := Lib.hid (h.of_block (hb'.block mb h.lt))
  have HBX : Hid ((w.alloc (.cells #[.string ⟨#[115, 101, 116]⟩, .int .i64 (d : Int), .int .i64 (a : Int), .int .i64 (bn : Int), .int .u32 im, .int .i64 (n : Int)] 86)).heap[w.heap.size]? = some (.cells #[.string ⟨#[115, 101, 116]⟩, .int .i64 (d : Int), .int .i64 (a : Int), .int .i64 (bn : Int), .int .u32 im, .int .i64 (n : Int)] 86 (0, 0))) := Lib.hid (heap_alloc_new w _)
  have HK0 := Lib.hid (Kept.of_below (S := fun k => k = mb) hb')
  have HLT := Lib.hid h.lt
  have HN := Lib.hid (And.intro hd (And.intro ha hbn))
  have iD : (d : Int) < 64 := by omega
  have iA : (a : Int) < 64 := by omega
  have iB : (bn : Int) < 64 := by omega
  clear h hb' hd ha hb0 hb1 hbn
  go_enter Tryz.func42, Tryz.ntmps42
  go_wp2_with fail
  generalize w.alloc (.cells #[.string ⟨#[115, 101, 116]⟩, .int .i64 (d : Int), .int .i64 (a : Int), .int .i64 (bn : Int), .int .u32 im, .int .i64 (n : Int)] 86) = W at *
  obtain ⟨c0, c1, c2, c3, c4, c5⟩ := six_cells HBX.out
  have hx := HM0.out.reg HN.out.2.1
  go_still (by kernel_rfl)
  change Exit.then _ _ Exit.normal _ W.drew
  have HBX1 : Hid (W.drew.heap[w.heap.size]? = _) := HBX
  have HM1 := Lib.hid (show MpB W.drew mb X rv wv from HM0.out.of_block rfl)
  have HK1 := Lib.hid (HK0.out.trans (Kept.of_below (Below.refl _ W).drew))
  clear c0 c1 c2 c3 c4 c5 hx HBX HM0 HK0
  generalize W.drew = W1 at *
  obtain ⟨c0, c1, c2, c3, c4, c5⟩ := six_cells HBX1.out
  go_wp2_with fail
  have hy := HM1.out.reg HN.out.2.2
  go_still (by kernel_rfl)
  change Exit.then _ _ Exit.normal _ W1.drew
  have HBX2 : Hid (W1.drew.heap[w.heap.size]? = _) := HBX1
  have HM2 := Lib.hid (show MpB W1.drew mb X rv wv from HM1.out.of_block rfl)
  have HK2 := Lib.hid (HK1.out.trans (Kept.of_below (Below.refl _ W1).drew))
  clear c0 c1 c2 c3 c4 c5 hy HBX1 HM1 HK1
  generalize W1.drew = W2 at *
  obtain ⟨c0, c1, c2, c3, c4, c5⟩ := six_cells HBX2.out
  go_wp2_with fail
  have hz := HM2.out.reg HN.out.1
  have hzf := HM2.out.free d
  have HM3 := Lib.hid ((show MpB W2.drew mb X rv wv from HM2.out.of_block rfl).set HN.out.1 (im))
  have HK3 := Lib.hid ((HK2.out.trans (Kept.of_below (Below.refl _ W2).drew)).trans (Kept.set W2.drew mb d (.int .u32 (im))))
  refine wp_region_still_tail 8 (by kernel_rfl) (by kernel_rfl) ?_
  simp only [List.take_succ_cons, List.take_zero, List.drop_succ_cons, List.drop_zero]
  repeat still_step
  try refine wpStill_nil ?_
  change wpList _ _ _ _ _ W2.drew
  have hzd : W2.drew.cell? ⟨mb, d, none⟩ = some _ := hz
  have hzfd : W2.drew.frozen? ⟨mb, d, none⟩ = false := hzf
  clear hz hzf c0 c1 c2 c3 c4 c5
  generalize W2.drew = W3 at *
  go_wp2
  go_ret
  exact ⟨rfl, HM3.out, HK3.out⟩
set_option maxHeartbeats 4000000 in
set_option maxRecDepth 100000 in
theorem doP_add {w : World} {mb d a n : Nat} {b im : Int} {X : Regs} {rv wv : Value} (h : MpB w mb X rv wv) (hd : d < 64) (ha : a < 64) (hb0 : 0 ≤ b) (hb1 : b < 64) :
    Calls Tryz.prog 42 #[.pointer (some ⟨mb, 0, none⟩), .agg #[.string ⟨#[97, 100, 100]⟩, .int .i64 (d : Int), .int .i64 (a : Int), .int .i64 b, .int .u32 im, .int .i64 (n : Int)]] w fun e w' => e = .returned (.bool true) ∧ MpB w' mb (updR X d ((X a + X b.toNat) % 4294967296)) rv wv ∧ Kept (fun k => k = mb) w w' := by
  obtain ⟨bn, rfl⟩ := Int.eq_ofNat_of_zero_le hb0
  have hbn : bn < 64 := by omega
  have hb' := (Below.refl w.heap.size w).alloc (Nat.le_refl _) (.cells #[.string ⟨#[97, 100, 100]⟩, .int .i64 (d : Int), .int .i64 (a : Int), .int .i64 (bn : Int), .int .u32 im, .int .i64 (n : Int)] 86)
  have HM0 : Hid (MpB (w.alloc (.cells #[.string ⟨#[97, 100, 100]⟩, .int .i64 (d : Int), .int .i64 (a : Int), .int .i64 (bn : Int), .int .u32 im, .int .i64 (n : Int)] 86)) mb X rv wv) := Lib.hid (h.of_block (hb'.block mb h.lt))
  have HBX : Hid ((w.alloc (.cells #[.string ⟨#[97, 100, 100]⟩, .int .i64 (d : Int), .int .i64 (a : Int), .int .i64 (bn : Int), .int .u32 im, .int .i64 (n : Int)] 86)).heap[w.heap.size]? = some (.cells #[.string ⟨#[97, 100, 100]⟩, .int .i64 (d : Int), .int .i64 (a : Int), .int .i64 (bn : Int), .int .u32 im, .int .i64 (n : Int)] 86 (0, 0))) := Lib.hid (heap_alloc_new w _)
  have HK0 := Lib.hid (Kept.of_below (S := fun k => k = mb) hb')
  have HLT := Lib.hid h.lt
  have HN := Lib.hid (And.intro hd (And.intro ha hbn))
  have iD : (d : Int) < 64 := by omega
  have iA : (a : Int) < 64 := by omega
  have iB : (bn : Int) < 64 := by omega
  have HV := Lib.hid (fun wx => (irValue_add (X a) (X bn) (X d) wx).mono (fun _ _ h => And.intro h.1 h.2.symm))
  show Calls _ _ _ _ fun e w' => _ ∧ MpB w' mb (updR X d ((X a + X bn) % 4294967296)) rv wv ∧ _
  generalize hze : (X a + X bn) % 4294967296 = z at HV ⊢
  clear hze
  clear h hb' hd ha hb0 hb1 hbn
  go_enter Tryz.func42, Tryz.ntmps42
  go_wp2_with fail
  generalize w.alloc (.cells #[.string ⟨#[97, 100, 100]⟩, .int .i64 (d : Int), .int .i64 (a : Int), .int .i64 (bn : Int), .int .u32 im, .int .i64 (n : Int)] 86) = W at *
  obtain ⟨c0, c1, c2, c3, c4, c5⟩ := six_cells HBX.out
  have hx := HM0.out.reg HN.out.2.1
  go_still (by kernel_rfl)
  change Exit.then _ _ Exit.normal _ W.drew
  have HBX1 : Hid (W.drew.heap[w.heap.size]? = _) := HBX
  have HM1 := Lib.hid (show MpB W.drew mb X rv wv from HM0.out.of_block rfl)
  have HK1 := Lib.hid (HK0.out.trans (Kept.of_below (Below.refl _ W).drew))
  clear c0 c1 c2 c3 c4 c5 hx HBX HM0 HK0
  generalize W.drew = W1 at *
  obtain ⟨c0, c1, c2, c3, c4, c5⟩ := six_cells HBX1.out
  go_wp2_with fail
  have hy := HM1.out.reg HN.out.2.2
  go_still (by kernel_rfl)
  change Exit.then _ _ Exit.normal _ W1.drew
  have HBX2 : Hid (W1.drew.heap[w.heap.size]? = _) := HBX1
  have HM2 := Lib.hid (show MpB W1.drew mb X rv wv from HM1.out.of_block rfl)
  have HK2 := Lib.hid (HK1.out.trans (Kept.of_below (Below.refl _ W1).drew))
  clear c0 c1 c2 c3 c4 c5 hy HBX1 HM1 HK1
  generalize W1.drew = W2 at *
  obtain ⟨c0, c1, c2, c3, c4, c5⟩ := six_cells HBX2.out
  go_wp2_with fail
  have hz := HM2.out.reg HN.out.1
  have hzf := HM2.out.free d
  have HM3 := Lib.hid ((show MpB W2.drew mb X rv wv from HM2.out.of_block rfl).set HN.out.1 (z))
  have HK3 := Lib.hid ((HK2.out.trans (Kept.of_below (Below.refl _ W2).drew)).trans (Kept.set W2.drew mb d (.int .u32 (z))))
  refine wp_region_still_tail 18 (by kernel_rfl) (by kernel_rfl) ?_
  simp only [List.take_succ_cons, List.take_zero, List.drop_succ_cons, List.drop_zero]
  repeat still_step
  still_call (HV.out _)
  repeat still_step
  try refine wpStill_nil ?_
  change wpList _ _ _ _ _ W2.drew
  have hzd : W2.drew.cell? ⟨mb, d, none⟩ = some _ := hz
  have hzfd : W2.drew.frozen? ⟨mb, d, none⟩ = false := hzf
  clear hz hzf c0 c1 c2 c3 c4 c5
  generalize W2.drew = W3 at *
  go_wp2
  go_ret
  exact ⟨rfl, HM3.out, HK3.out⟩
end Go.Proofs.YtadoaldnjnkhgaaGreatDoor
namespace Go.Proofs.YtadoaldnjnkhgaaGreatDoor
open Go.RowKit
def isLd (o : Nat) : Bool := [46, 47, 48, 49, 50].contains o
def isSto (o : Nat) : Bool := [51, 52, 53].contains o
theorem plain_split {o : Nat} (h : plainOp o = true) : (memOp o ∧ isLd o = true) ∨ (stoOp o ∧ isLd o = false ∧ isSto o = true) ∨ (o ∈ sumOps ∧ isLd o = false ∧ isSto o = false) := by
  have h1 := plain_cases h
  simp only [List.mem_cons, List.not_mem_nil, or_false] at h1
  rcases h1 with rfl | rfl | rfl | rfl | rfl | rfl | rfl | rfl | rfl | rfl | rfl | rfl | rfl | rfl | rfl | rfl | rfl | rfl | rfl | rfl | rfl | rfl | rfl | rfl | rfl | rfl | rfl | rfl | rfl | rfl | rfl | rfl | rfl | rfl | rfl | rfl | rfl | rfl | rfl | rfl
  all_goals first
    | exact .inr (.inr ⟨by decide, rfl, rfl⟩)
    | exact .inl ⟨by unfold memOp; decide, rfl⟩
    | exact .inr (.inl ⟨by unfold stoOp; decide, rfl, rfl⟩)
def doResOf (wt : Nat → Bool) (s : StF) (F : BusF) (i : InsN) : DoRes :=
  if brOp i.o = true then brF s F i.o i.s.toNat i.t.toNat i.d.toNat i.imm
  else if isLd i.o = true then ldRes s F i.o i.s.toNat i.t.toNat i.imm
  else if isSto i.o = true then stoRes wt s F i.o i.s.toNat i.t.toNat i.imm
  else sumRes s F i.o i.s.toNat i.t.toNat i.d.toNat i.imm
def stepF (wt : Nat → Bool) (s : StF) (F : BusF) (i : InsN) : Int × StF × BusF := oneF (brOp i.o) (doResOf wt s F i)
def stepsF (wt : Nat → Bool) : List InsN → StF → BusF → Option (StF × BusF)
  | [], s, F => some (s, F)
  | i :: l, s, F => if 0 ≤ (stepF wt s F i).1 then none else if (stepF wt s F i).2.2.tr ≠ [] then none else stepsF wt l { (stepF wt s F i).2.1 with count := (stepF wt s F i).2.1.count + 1 } (stepF wt s F i).2.2
def HitAny (ht : Nat → Bool) (h : Bool) : Prop := h = true ↔ ∃ p, p < 64 ∧ ht p = true
theorem HitAny.hit {ht wt : Nat → Bool} {h : Bool} (H : HitAny ht h) {p : Nat} (hp : p < 64) : HitAny (hitN wt ht p) (h || wt p) := by
  unfold HitAny hitN at *
  rw [Bool.or_eq_true, H]
  constructor
  · rintro (⟨q, hq, e⟩ | e)
    · exact ⟨q, hq, by rw [e]; rfl⟩
    · exact ⟨p, hp, by rw [e]; simp⟩
  · rintro ⟨q, hq, e⟩
    rw [Bool.or_eq_true, Bool.and_eq_true] at e
    rcases e with e | ⟨e1, e2⟩
    · exact .inl ⟨q, hq, e⟩
    · exact .inr e2
theorem doZ_sum (wt : Nat → Bool) {o : Nat} (ho : o ∈ sumOps) (S T D : Nat) (m : Int) (s : StF) (ws : List Int) (h : Bool) : doZ wt o S T D m (gsOf s) ws h = (sumZF s o S T D m).map (fun y => (y.1, y.2.1, y.2.2.1, ws, h)) := by
  simp only [sumOps, List.mem_cons, List.not_mem_nil, or_false] at ho
  unfold sumZF
  rcases ho with rfl | rfl | rfl | rfl | rfl | rfl | rfl | rfl | rfl | rfl | rfl | rfl | rfl | rfl | rfl | rfl | rfl | rfl | rfl | rfl | rfl | rfl | rfl | rfl | rfl | rfl | rfl | rfl | rfl | rfl | rfl | rfl
  all_goals first
    | rfl
    | (simp only [doZ]; split <;> rfl)
theorem doZ_ld (wt : Nat → Bool) {o : Nat} (ho : memOp o) (S T D : Nat) (m : Int) (s : StF) (ws : List Int) (h : Bool) : doZ wt o S T D m (gsOf s) ws h =
    if reach ((s.r S + wideS m) % 4294967296) (sizeN o) = true then some (updR s.r T (wideZ (loadN ws ((s.r S + wideS m) % 4294967296).toNat (sizeN o)) (sizeN o) (decide (sizeS o < 0))), s.hi, s.lo, ws, h) else none := by
  rcases ho with rfl | rfl | rfl | rfl | rfl <;> rfl
theorem doZ_sto (wt : Nat → Bool) {o : Nat} (ho : stoOp o) (S T D : Nat) (m : Int) (s : StF) (ws : List Int) (h : Bool) : doZ wt o S T D m (gsOf s) ws h =
    if reach ((s.r S + wideS m) % 4294967296) (sizeN o) = true then some (s.r, s.hi, s.lo, storeN ((s.r S + wideS m) % 4294967296).toNat (sizeN o) (s.r T) (sizeN o) ws, h || wt (((s.r S + wideS m) % 4294967296).toNat / 256)) else none := by
  rcases ho with rfl | rfl | rfl <;> rfl
theorem br_range {i : InsN} (hi : InsR i) {s : StF} (hR : RegsOK s.r) (v : Int) (h : (brZ i.o i.s.toNat i.t.toNat i.d.toNat i.imm s.r s.pc).2 = some v) : 0 ≤ v ∧ v < 4294967296 := by
  have m0 := hi.m0
  have m1 := hi.m1
  have a := hR i.s.toNat
  unfold Reg32 at a
  generalize i.s.toNat = S at *
  generalize i.t.toNat = T at *
  generalize i.d.toNat = D at *
  generalize i.imm = m at *
  generalize i.o = o at *
  generalize s.pc = p at *
  unfold brZ at h
  split at h
  all_goals dsimp only at h
  all_goals first
    | (split at h <;> first | (cases h; exact ⟨Int.emod_nonneg _ (by decide), Int.emod_lt_of_pos _ (by decide)⟩) | cases h)
    | (cases h; exact a)
    | (cases h; omega)
    | cases h
structure GoesF (s : StF) (F : BusF) (g : GS) (ws : List Int) (h : Bool) (x : Int × StF × BusF) : Prop where
  code : x.1 < 0
  tr : x.2.2.tr = []
  ws : x.2.2.ws = ws
  st : x.2.1 = { s with r := g.r, hi := g.hi, lo := g.lo, pc := g.pc, next := g.next, slot := g.slot }
  hit : HitAny x.2.2.hit h
  out : x.2.2.out = F.out
theorem busL_yes {F : BusF} {a : Int} {n : Nat} {sg : Bool} {c : Int} (hr : reach a n = true) : busL F a n sg c = (wideZ (loadN F.ws a.toNat n) n sg, 0, F) := by
  unfold busL; rw [if_pos (reach_parts hr).2, if_pos hr]
theorem busL_no {F : BusF} {a : Int} {n : Nat} {sg : Bool} {c : Int} (hr : ¬ reach a n = true) : (busL F a n sg c).2.1 ≠ 0 ∨ (busL F a n sg c).2.2.tr ≠ [] := by
  unfold busL
  by_cases h1 : a < 16384
  · rw [if_pos h1, if_neg hr]
    exact .inl (fun e => hr ((reach_iff a n).2 e))
  · rw [if_neg h1]
    by_cases h2 : devErr a n = 0
    · rw [if_pos h2]; exact .inr (by simp)
    · rw [if_neg h2]; exact .inl h2
theorem busS_yes {wt : Nat → Bool} {F : BusF} {a : Int} {n : Nat} {v c : Int} (hr : reach a n = true) : busS wt F a n v c = (0, { F with ws := storeN a.toNat n v n F.ws, hit := hitN wt F.hit (a.toNat / 256) }) := by
  unfold busS; rw [if_pos (reach_parts hr).2, if_pos hr]
theorem busS_no {wt : Nat → Bool} {F : BusF} {a : Int} {n : Nat} {v c : Int} (hr : ¬ reach a n = true) : (busS wt F a n v c).1 ≠ 0 ∨ (busS wt F a n v c).2.tr ≠ [] := by
  unfold busS
  by_cases h1 : a < 16384
  · rw [if_pos h1, if_neg hr]
    exact .inl (fun e => hr ((reach_iff a n).2 e))
  · rw [if_neg h1]
    by_cases h2 : devErr a n = 0
    · rw [if_pos h2]; exact .inr (by simp)
    · rw [if_neg h2]; exact .inl h2
theorem oneF_bad {br : Bool} {to c : Int} {s : StF} {F : BusF} (h : 0 ≤ c) : oneF br (to, c, s, F) = (c, s, F) := by unfold oneF; exact if_pos h
theorem oneF_on {br : Bool} {to : Int} {s : StF} {F : BusF} : oneF br (to, -1, s, F) = (-1, { s with r := updR s.r 0 0, pc := s.next, next := if 0 ≤ to then to % 4294967296 else (s.next + 4) % 4294967296, slot := br }, F) := by
  unfold oneF; exact if_neg (show ¬ (0 : Int) ≤ -1 by decide)
theorem oneZ_plain {wt : Nat → Bool} {i : InsN} (hb : brOp i.o = false) (g : GS) (ws : List Int) (h : Bool) : oneZ wt i g ws h = (doZ wt i.o i.s.toNat i.t.toNat i.d.toNat i.imm g ws h).map (fun y => (⟨updR y.1 0 0, y.2.1, y.2.2.1, g.next, (g.next + 4) % 4294967296, false⟩, y.2.2.2.1, y.2.2.2.2)) := by
  unfold oneZ
  rw [hb, if_neg (by decide)]
  cases doZ wt i.o i.s.toNat i.t.toNat i.d.toNat i.imm g ws h <;> rfl
theorem step_link {wt : Nat → Bool} {i : InsN} (hi : InsR i) (hk : plainOp i.o = true ∨ brOp i.o = true) {s : StF} {F : BusF} {h : Bool} (hR : RegsOK s.r) (hsl : brOp i.o = true → s.slot = false) (htr : F.tr = []) (hh : HitAny F.hit h) :
    match oneZ wt i (gsOf s) F.ws h with
    | none => 0 ≤ (stepF wt s F i).1 ∨ (stepF wt s F i).2.2.tr ≠ []
    | some (g', ws', h') => GoesF s F g' ws' h' (stepF wt s F i) := by
  unfold stepF doResOf
  by_cases hb : brOp i.o = true
  · have hs := hsl hb
    have ho : oneZ wt i (gsOf s) F.ws h = some (⟨updR (brZ i.o i.s.toNat i.t.toNat i.d.toNat i.imm s.r s.pc).1 0 0, s.hi, s.lo, s.next, ((brZ i.o i.s.toNat i.t.toNat i.d.toNat i.imm s.r s.pc).2).getD ((s.next + 4) % 4294967296), true⟩, F.ws, h) := by
      unfold oneZ
      rw [if_pos hb, if_neg (by show ¬ s.slot = true; rw [hs]; decide)]
    rw [ho, if_pos hb, hb]
    dsimp only
    unfold brF
    rw [oneF_on]
    refine ⟨(by decide : (-1 : Int) < 0), htr, rfl, ?_, hh, rfl⟩
    dsimp only
    congr 1
    cases hv : (brZ i.o i.s.toNat i.t.toNat i.d.toNat i.imm s.r s.pc).2 with
    | none => rfl
    | some v =>
      have hr := br_range hi hR v hv
      simp only [Option.getD_some]
      rw [if_pos hr.1]
      omega
  · have hbf : brOp i.o = false := by simpa using hb
    have hp : plainOp i.o = true := hk.resolve_right hb
    rw [oneZ_plain hbf, if_neg hb, hbf]
    rcases plain_split hp with ⟨hm, h1⟩ | ⟨hm, h1, h2⟩ | ⟨hm, h1, h2⟩
    · rw [if_pos h1, doZ_ld wt hm]
      unfold ldRes ldF
      by_cases hr : reach ((s.r i.s.toNat + wideS i.imm) % 4294967296) (sizeN i.o) = true
      · rw [if_pos hr, busL_yes hr]
        simp only [Option.map_some, if_true]
        rw [oneF_on]
        exact ⟨(by decide : (-1 : Int) < 0), htr, rfl, rfl, hh, rfl⟩
      · rw [if_neg hr]
        simp only [Option.map_none]
        have hn := busL_no (F := F) (sg := decide (sizeS i.o < 0)) (c := s.count) hr
        generalize busL F ((s.r i.s.toNat + wideS i.imm) % 4294967296) (sizeN i.o) (decide (sizeS i.o < 0)) s.count = x at hn ⊢
        by_cases hx : x.2.1 = 0
        · rw [if_pos hx, oneF_on]
          exact .inr (hn.resolve_left (fun e => e hx))
        · rw [if_neg hx, oneF_bad (by decide)]
          exact .inl (by dsimp only; decide)
    · rw [if_neg (by rw [h1]; decide), if_pos h2, doZ_sto wt hm]
      unfold stoRes stoF
      by_cases hr : reach ((s.r i.s.toNat + wideS i.imm) % 4294967296) (sizeN i.o) = true
      · rw [if_pos hr, busS_yes hr]
        simp only [Option.map_some, if_true]
        rw [oneF_on]
        refine ⟨(by decide : (-1 : Int) < 0), htr, rfl, rfl, ?_, rfl⟩
        refine hh.hit ?_
        have := (reach_parts hr).2
        have := (r32_mod (s.r i.s.toNat + wideS i.imm)).1
        omega
      · rw [if_neg hr]
        simp only [Option.map_none]
        have hn := busS_no (wt := wt) (F := F) (v := s.r i.t.toNat) (c := s.count) hr
        generalize busS wt F ((s.r i.s.toNat + wideS i.imm) % 4294967296) (sizeN i.o) (s.r i.t.toNat) s.count = x at hn ⊢
        by_cases hx : x.1 = 0
        · rw [if_pos hx, oneF_on]
          exact .inr (hn.resolve_left (fun e => e hx))
        · rw [if_neg hx, oneF_bad (by decide)]
          exact .inl (by dsimp only; decide)
    · rw [if_neg (by rw [h1]; decide), if_neg (by rw [h2]; decide), doZ_sum wt hm]
      unfold sumRes
      cases hz : sumZF s i.o i.s.toNat i.t.toNat i.d.toNat i.imm with
      | none =>
        simp only [Option.map_none]
        rw [oneF_bad (by decide)]
        exact .inl (by dsimp only; decide)
      | some y =>
        simp only [Option.map_some]
        rw [oneF_on]
        exact ⟨(by decide : (-1 : Int) < 0), htr, rfl, rfl, hh, rfl⟩
def okS : List InsN → Bool → Prop
  | [], _ => True
  | i :: l, sl => (brOp i.o = true → sl = false) ∧ okS l (brOp i.o)
structure StG (s : StF) (F : BusF) (n : Nat) : Prop where
  g : GSOK (gsOf s)
  w : WsOK F.ws
  pc : Reg32 s.pc
  next : Reg32 s.next
  c0 : 0 ≤ s.count
  c1 : s.count + n ≤ 4611686018427387903
  tr : F.tr = []
  out : F.out.length ≤ 1000000
theorem StG.ok {s : StF} {F : BusF} {n : Nat} (h : StG s F n) : StOK s F := ⟨h.g.r, h.pc, h.next, ⟨h.c0, by have := h.c1; omega⟩, by rw [h.tr]; decide, h.out⟩
theorem step_next {wt : Nat → Bool} {i : InsN} (hi : InsR i) {s : StF} {ws : List Int} {h : Bool} {x : GS × List Int × Bool} (hR : RegsOK s.r) (hn : Reg32 s.next) (ho : oneZ wt i (gsOf s) ws h = some x) : x.1.pc = s.next ∧ Reg32 x.1.next ∧ x.1.slot = brOp i.o := by
  by_cases hb : brOp i.o = true
  · unfold oneZ at ho
    rw [if_pos hb] at ho
    split at ho
    · cases ho
    · cases ho
      refine ⟨rfl, ?_, hb.symm⟩
      show Reg32 (((brZ i.o i.s.toNat i.t.toNat i.d.toNat i.imm s.r s.pc).2).getD ((s.next + 4) % 4294967296))
      cases hv : (brZ i.o i.s.toNat i.t.toNat i.d.toNat i.imm s.r s.pc).2 with
      | none => exact r32_mod _
      | some v => exact br_range hi hR v hv
  · have hbf : brOp i.o = false := by simpa using hb
    rw [oneZ_plain hbf] at ho
    cases hd : doZ wt i.o i.s.toNat i.t.toNat i.d.toNat i.imm (gsOf s) ws h with
    | none => rw [hd] at ho; cases ho
    | some y =>
      rw [hd] at ho
      cases ho
      exact ⟨rfl, r32_mod _, hbf.symm⟩
theorem steps_link {wt : Nat → Bool} : ∀ (l : List InsN) (s : StF) (F : BusF) (h : Bool), (∀ i ∈ l, InsR i ∧ (plainOp i.o = true ∨ brOp i.o = true)) → okS l s.slot → StG s F l.length → HitAny F.hit h →
    match walkZ wt l (gsOf s) F.ws h with
    | none => stepsF wt l s F = none
    | some (g', ws', h') => ∃ F', stepsF wt l s F = some ({ s with r := g'.r, hi := g'.hi, lo := g'.lo, pc := g'.pc, next := g'.next, slot := g'.slot, count := s.count + (l.length : Int) }, F') ∧ F'.ws = ws' ∧ HitAny F'.hit h' ∧ F'.tr = []
  | [], s, F, h, _, _, hg, hh => ⟨F, by simp [stepsF], rfl, hh, hg.tr⟩
  | i :: l, s, F, h, hl, hs, hg, hh => by
    obtain ⟨hi, hk⟩ := hl i List.mem_cons_self
    have h1 := step_link (wt := wt) (F := F) (h := h) hi hk hg.g.r hs.1 hg.tr hh
    simp only [walkZ]
    cases ho : oneZ wt i (gsOf s) F.ws h with
    | none =>
      rw [ho] at h1
      dsimp only at h1 ⊢
      unfold stepsF
      by_cases hc : 0 ≤ (stepF wt s F i).1
      · rw [if_pos hc]
      · rw [if_neg hc, if_pos (h1.resolve_left hc)]
    | some x =>
      obtain ⟨g', ws', h'⟩ := x
      rw [ho] at h1
      dsimp only at h1 ⊢
      have hz := oneZ_ok ⟨hi.m0, by have := hi.m1; omega⟩ hg.g hg.w ho
      have hn := step_next hi hg.g.r hg.next ho
      have hG : StG { (stepF wt s F i).2.1 with count := (stepF wt s F i).2.1.count + 1 } (stepF wt s F i).2.2 l.length := by
        have hlen : (i :: l).length = l.length + 1 := rfl
        have c1 := hg.c1
        have c0 := hg.c0
        rw [hlen] at c1
        constructor
        · rw [h1.st]; exact hz.1
        · rw [h1.ws]; exact hz.2
        · rw [h1.st]; show Reg32 g'.pc; rw [hn.1]; exact hg.next
        · rw [h1.st]; exact hn.2.1
        · rw [h1.st]; show 0 ≤ s.count + 1; omega
        · rw [h1.st]; show s.count + 1 + (l.length : Int) ≤ _; push_cast at c1; omega
        · exact h1.tr
        · rw [h1.out]; exact hg.out
      have hS : okS l (stepF wt s F i).2.1.slot := by rw [h1.st]; show okS l g'.slot; rw [hn.2.2]; exact hs.2
      have ih := steps_link (wt := wt) l { (stepF wt s F i).2.1 with count := (stepF wt s F i).2.1.count + 1 } (stepF wt s F i).2.2 h' (fun j hj => hl j (List.mem_cons_of_mem _ hj)) hS hG h1.hit
      have hE : stepsF wt (i :: l) s F = stepsF wt l { (stepF wt s F i).2.1 with count := (stepF wt s F i).2.1.count + 1 } (stepF wt s F i).2.2 := by
        rw [stepsF, if_neg (by have := h1.code; omega), if_neg (fun e => e h1.tr)]
      rw [hE]
      have hg2 : gsOf { (stepF wt s F i).2.1 with count := (stepF wt s F i).2.1.count + 1 } = g' := by rw [h1.st]
      rw [hg2, h1.ws] at ih
      cases hw : walkZ wt l g' ws' h' with
      | none => rw [hw] at ih; exact ih
      | some y =>
        obtain ⟨g2, ws2, h2⟩ := y
        rw [hw] at ih
        obtain ⟨F', e1, e2, e3, e4⟩ := ih
        refine ⟨F', ?_, e2, e3, e4⟩
        rw [e1]
        congr 2
        rw [h1.st]
        dsimp only
        congr 1
        rw [List.length_cons]
        push_cast
        omega
end Go.Proofs.YtadoaldnjnkhgaaGreatDoor
namespace Go.Proofs.YtadoaldnjnkhgaaGreatDoor
open Go.RowKit
theorem Tryz.infoIn : (Tryz.prog.info? 3).map (fun i => (i.zero, i.size, i.bytes)) = some (some (.int .i64 0), 1, 8) := by kernel_rfl
theorem one_newI (w : World) (v : Value) (t : TypeId) (b : Nat) (hb : b = w.heap.size) : ∀ j u, [v][j]? = some u → (w.alloc (.cells #[v] t)).cell? ((⟨b, 0, none⟩ : Addr).add j) = some u := by
  intro j u hj
  subst hb
  match j, hj with
  | 0, hj => simp at hj; subst hj; simp [Addr.add]
  | j + 1, hj => simp at hj
theorem newBus_any (w : World) :
    Calls Tryz.prog 33 #[.slice none 0 0] w fun e w' => ∃ b r, e = .returned (.pointer (some ⟨b, 0, none⟩)) ∧ w'.heap[b]? = some (Obj.cells #[.pointer (some ⟨r, 0, none⟩), .string ByteArray.empty, .int .u32 0, .slice none 0 0] 96 (0, 0)) ∧ w.heap.size ≤ b ∧ Below w.heap.size w w' := by
  have HN := Lib.hid (newRam_nil w)
  go_enter Tryz.func33, Tryz.ntmps33
  go_wp2_with fail
  refine HN.out.mono ?_
  intro e w1 hm
  obtain ⟨r, bw, bx, bh, rfl, hR, hb1, x1, x2, x3, x4⟩ := hm
  have HB := Lib.hid (hb1.alloc hb1.size (.cells #[.pointer (some ⟨r, 0, none⟩), .string ByteArray.empty, .int .u32 0, .slice none 0 0] 96))
  have HH := Lib.hid (heap_alloc_new w1 (.cells #[.pointer (some ⟨r, 0, none⟩), .string ByteArray.empty, .int .u32 0, .slice none 0 0] 96))
  have HZ := Lib.hid hb1.size
  clear hR hb1 x1 x2 x3 x4 HN
  go_wp2
  go_ret
  exact ⟨_, r, rfl, HH.out, HZ.out, HB.out⟩
structure HitS (w0 w : World) (r bw ba bh p : Nat) (ov : Value) (l : List Value) (ws : List Int) (wt ht : Nat → Bool) : Prop where
  own : w.ownsRow w0.heap.size 3 1 ov l.length l
  ram : RamM w r bw ba bh ws wt (fun j => if j < p then false else ht j)
  kept : Kept (fun k => k = bh) w0 w
  nil : l = [] ↔ ∀ j, j < p → ht j = false
  short : l.length ≤ p
theorem HitS.skip {w0 w : World} {r bw ba bh p : Nat} {ov : Value} {l : List Value} {ws : List Int} {wt ht : Nat → Bool} (h : HitS w0 w r bw ba bh p ov l ws wt ht) (hp : ht p = false) : HitS w0 w r bw ba bh (p + 1) ov l ws wt ht where
  own := h.own
  ram := h.ram.eqHit (fun j _ => by
    by_cases e : j = p
    · subst e; rw [if_neg (by omega), if_pos (by omega)]; exact hp
    · by_cases e2 : j < p
      · rw [if_pos e2, if_pos (by omega)]
      · rw [if_neg e2, if_neg (by omega)])
  kept := h.kept
  nil := by
    rw [h.nil]
    constructor
    · intro a j hj
      by_cases e : j = p
      · subst e; exact hp
      · exact a j (by omega)
    · intro a j hj
      exact a j (by omega)
  short := Nat.le_succ_of_le h.short
theorem HitS.hit {w0 w w5 : World} {r bw ba bh p : Nat} {ov ov' : Value} {l : List Value} {ws : List Int} {wt ht : Nat → Bool} {o : Obj} {v : Value} (h : HitS w0 w r bw ba bh p ov l ws wt ht) (h0 : RamM w0 r bw ba bh ws wt ht) (hp : ht p = true)
    (hown : w5.ownsRow w0.heap.size 3 1 ov' (l.length + 1) (l ++ [v])) (hg : (w.alloc o).grownBy w5 ov.ownBlock) : HitS w0 (w5.setCell ⟨bh, p, none⟩ (.bool false)) r bw ba bh (p + 1) ov' (l ++ [v]) ws wt ht ∧ RamM w5 r bw ba bh ws wt (fun j => if j < p then false else ht j) := by
  have l1 := h0.lt
  have l2 := h0.words.lt
  have l3 := h0.watch.lt
  have l4 := h0.hit.lt
  have hsz := h.kept.below.size
  have hb : Below w0.heap.size w w5 := (((Below.refl w0.heap.size w).alloc hsz o)).grown hg (Nat.le_trans hsz (by simp)) (fun k hk => (h.own.lt k hk).1)
  have hk : Kept (fun k => w0.heap.size ≤ k) w w5 := ⟨hb.mono (Nat.zero_le _), fun k _ hs => hb.block k (by omega)⟩
  have hr5 := h.ram.kept hk (by omega) (by omega) (by omega) (by omega)
  have hks := Kept.set w5 bh p (.bool false)
  refine ⟨⟨?_, ?_, ?_, ?_, ?_⟩, hr5⟩
  · rw [List.length_append]
    exact own_block hown (fun g hg2 => setCell_other w5 bh p g _ (fun e => by have := (hown.lt g hg2).1; omega))
  · exact (hr5.setHit p false).eqHit (g := fun j => if j < p + 1 then false else ht j) (fun j _ => by
      by_cases e : j = p
      · subst e; rw [if_pos rfl, if_pos (by omega)]
      · rw [if_neg e]
        by_cases e2 : j < p
        · rw [if_pos e2, if_pos (by omega)]
        · rw [if_neg e2, if_neg (by omega)])
  · exact ⟨h.kept.below.trans (hk.below.trans hks.below), fun k hkk hn => (hks.same k (Nat.lt_of_lt_of_le hkk (Nat.le_trans hsz hk.below.size)) hn).trans ((hk.same k (Nat.lt_of_lt_of_le hkk hsz) (by omega)).trans (h.kept.same k hkk hn))⟩
  · constructor
    · intro e; simp at e
    · intro a; have := a p (by omega); rw [hp] at this; cases this
  · rw [List.length_append]; have := h.short; simp; omega
set_option maxHeartbeats 4000000 in
set_option maxRecDepth 100000 in
theorem hits_any {w : World} {r bw ba bh : Nat} {ws : List Int} {wt ht : Nat → Bool} (h : RamM w r bw ba bh ws wt ht) :
    Calls Tryz.prog 35 #[.pointer (some ⟨r, 0, none⟩)] w fun e w' => ∃ ov l, e = .returned ov ∧ HitS w w' r bw ba bh 64 ov l ws wt ht := by
  obtain ⟨iI, hI1, hI2, hI3, hI4⟩ := info_parts Tryz.infoIn
  have H0 := Lib.hid h
  have HS0 : Hid (HitS w w r bw ba bh 0 (.slice none 0 0) [] ws wt ht) := Lib.hid ⟨World.ownsRow_nil _ _ _ _, h.eqHit (fun j _ => by rw [if_neg (Nat.not_lt_zero j)]), Kept.refl _ _, ⟨fun _ j hj => absurd hj (Nat.not_lt_zero j), fun _ => rfl⟩, Nat.le_refl _⟩
  clear h
  go_enter Tryz.func35, Tryz.ntmps35
  go_wp2_with fail
  go_loopw [3, 4] (fun rv iv wr => ∃ (p : Nat) (va : Option Addr) (vn vc : Nat) (l : List Value), p ≤ 64 ∧ rv = .slice va vn vc ∧ vn = l.length ∧ iv = .int .i64 (p : Int) ∧ Hid (HitS w wr r bw ba bh p (.slice va vn vc) l ws wt ht)) (fun _ iv _ => 64 - (intOf iv).toNat)
  case atStart => exact ⟨0, none, 0, 0, [], Nat.zero_le _, rfl, rfl, rfl, HS0⟩
  case round =>
    obtain ⟨p, va, vn, vc, l, hp, rfl, hvn, rfl, HS⟩ := hrel
    by_cases hlt : p < 64
    · have hltI : (p : Int) < 64 := by omega
      obtain ⟨c0, c1, c2⟩ := HS.out.ram.cells
      have hw := HS.out.ram.hit.cell hlt
      have hf := HS.out.ram.hit.free p
      unfold boolsG at hw
      simp only [Nat.lt_irrefl, if_false] at hw
      have HLT := Lib.hid hlt
      have HVN := Lib.hid hvn
      cases hv : ht p with
      | false =>
        have HNX := Lib.hid (HS.out.skip hv)
        rw [hv] at hw
        clear hv hlt
        go_wp2
        refine ⟨⟨p + 1, va, vn, vc, l, by have := HLT.out; omega, rfl, HVN.out, by go_num, HNX⟩, ?_⟩
        simp [intOf]
        have := HLT.out
        omega
      | true =>
        have HV := Lib.hid hv
        rw [hv] at hw
        have hown0 := HS.out.own
        have hvl : (vn : Int) ≤ 64 := by have := HS.out.short; omega
        have HVL := Lib.hid hvl
        have HSZ := Lib.hid HS.out.kept.below.size
        clear hv hlt hvn
        go_wp2_with (at_builtin; refine wpList_append_own _ rfl (.tmp 16) (.tmp 18) 39 rfl w.heap.size 3 iI (.int .i64 0) 1 8 Tryz.underlying39 hI1 hI2 hI3 hI4 rfl (by decide) _ l.length _ rfl (hown0.alloc _) ⟨wr.heap.size, 0, none⟩ 1 1 [.int .i64 (p : Int)] rfl rfl (one_newI _ _ _ _ rfl) (by simp [Value.oneCell']) (by unfold maxLen; have := HVL.out; have := HVN.out; omega) (by have := HVL.out; have := HVN.out; omega) (by simp; have := HSZ.out; omega) ?_)
        intro v5 w5 hown5 hgr5 _
        obtain ⟨hn5, hr5⟩ := HS.out.hit H0.out HV.out hown5 hgr5
        have HN5 := Lib.hid hn5
        have HR5 := Lib.hid hr5
        obtain ⟨va', vc', hv5⟩ : ∃ va' vc', v5 = .slice va' (l.length + 1) vc' := by
          rcases Joins.ownsRow_forms hown5 with ⟨_, hz⟩ | ⟨g, cap, hv⟩
          · exact absurd hz (by omega)
          · exact ⟨_, _, hv⟩
        subst hv5
        clear hown5 hgr5 hn5 hr5 hown0 c0 c1 c2 hw hf
        obtain ⟨c0, c1, c2⟩ := HR5.out.cells
        have hw := HR5.out.hit.cell HLT.out
        have hf := HR5.out.hit.free p
        go_wp2
        refine ⟨⟨p + 1, va', l.length + 1, vc', l ++ [.int .i64 (p : Int)], by have := HLT.out; omega, rfl, by simp, by go_num, HN5⟩, ?_⟩
        simp [intOf]
        have := HLT.out
        omega
    · obtain rfl : p = 64 := by omega
      go_wp2
      go_ret
      exact ⟨_, l, rfl, HS.out⟩
end Go.Proofs.YtadoaldnjnkhgaaGreatDoor
