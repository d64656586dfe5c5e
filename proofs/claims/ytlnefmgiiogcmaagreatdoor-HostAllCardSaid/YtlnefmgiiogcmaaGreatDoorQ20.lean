/- The walk of the document's do of an instruction. The walk of law3's placed. The walk of the document's OneIns, whatever its do answers. ir's machine: its state, the walk of NewMachine. The walks of ir's Leaves, Where, Ready, Value, do. The walks of word's functions. Plain: better codes end alike: known registers folded, dead ops swept away. No program in sight. The walks of ir's sums, Value, Over. Conditions: as each theorem states. -/
import Derived.Test.YtlnefmgiiogcmaaGreatDoorQ18
import Derived.Deep.MidRow
import Derived.Deep.RegionHeld3
import Derived.Test.YtlnefmgiiogcmaaGreatDoorQ19
import Derived.Test.YtlnefmgiiogcmaaGreatDoorQ13
import Derived.Test.YtlnefmgiiogcmaaGreatDoorQ12
import Derived.Laws.CopyOwn
import Derived.StillTailTactics
import Derived.BigRegion
import Derived.Test.YtlnefmgiiogcmaaGreatDoorQ04
import Derived.Test.YtlnefmgiiogcmaaGreatDoorShelf
import Derived.Deep.QuietTactic
import Derived.OwnWalk
import Derived.Test.YtlnefmgiiogcmaaGreatDoorQ01
import Derived.Test.YtlnefmgiiogcmaaGreatDoorQ05
import Derived.Laws.BitsAllLaws
set_option linter.unusedVariables false
set_option linter.unusedSimpArgs false
namespace Go.Proofs.YtlnefmgiiogcmaaGreatDoor
open Go.RowKit
structure InsF (S T D : Nat) (m : Int) : Prop where
  s : S < 32
  t : T < 32
  d : D < 32
  m0 : 0 ≤ m
  m1 : m < 67108864
structure StOK (s : StF) (F : BusF) : Prop where
  r : RegsOK s.r
  pc : Reg32 s.pc
  next : Reg32 s.next
  count : 0 ≤ s.count ∧ s.count ≤ 4611686018427387903
  tr : F.tr.length ≤ 1000000
  out : F.out.length ≤ 1000000
section
variable {w : World} {B sb b r bw ba bh S T D o : Nat} {tv : Value} {wt : Nat → Bool} {s : StF} {F : BusF} {m : Int}
end
end Go.Proofs.YtlnefmgiiogcmaaGreatDoor
namespace Go.Proofs.YtlnefmgiiogcmaaGreatDoor
open Go.RowKit
def stL (s : StF) : List Value := (List.range 43).map (stG s)
theorem stL_len (s : StF) : (stL s).length = 43 := by simp [stL]
theorem stL_at (s : StF) {k : Nat} (hk : k < 43) : (stL s)[k]? = some (stG s k) := by simp [stL, hk]
theorem stL_lt {s : StF} {k : Nat} {v : Value} (h : (stL s)[k]? = some v) : k < 43 := by
  have := (List.getElem?_eq_some_iff.1 h).1
  rwa [stL_len] at this
theorem StB.range {w : World} {b : Nat} {s : StF} (h : StB w b s) : w.rangeAt b 0 (stL s) := fun j v hv => by
  have hj := stL_lt hv
  rw [stL_at s hj] at hv
  rw [Nat.zero_add, ← hv]
  exact h.cell hj
theorem StB.there {w : World} {b : Nat} {s : StF} (h : StB w b s) : w.there b 0 43 := fun j hj => by
  rw [Nat.zero_add]
  exact ⟨by rw [h.cell hj]; rfl, h.free j⟩
theorem Row.setCells {b n : Nat} {t : TypeId} : ∀ (l : List Value) (w : World) (g : Nat → Value) (o : Nat), Row w b t n g → o + l.length ≤ n →
    Row (w.setCells b o l) b t n (fun k => if o ≤ k ∧ k < o + l.length then l.getD (k - o) (g k) else g k)
  | [], w, g, o, h, _ => h.eqv (fun k _ => by rw [if_neg (by simp)])
  | v :: r, w, g, o, h, hl => by
    have hl' : o + 1 + r.length ≤ n := by simpa [Nat.add_assoc, Nat.add_comm 1] using hl
    have := Row.setCells r _ _ (o + 1) (h.set o v) hl'
    refine Row.eqv this (fun k hk => ?_)
    simp only [List.length_cons]
    by_cases e : k = o
    · have h1 : ¬ (o + 1 ≤ k ∧ k < o + 1 + r.length) := by omega
      have h2 : o ≤ k ∧ k < o + (r.length + 1) := ⟨by omega, by omega⟩
      rw [if_neg h1, if_pos e, if_pos h2, e, Nat.sub_self]
      rfl
    · by_cases e2 : o + 1 ≤ k ∧ k < o + 1 + r.length
      · have h2 : o ≤ k ∧ k < o + (r.length + 1) := ⟨by omega, by omega⟩
        rw [if_pos e2, if_pos h2]
        obtain ⟨j, rfl⟩ : ∃ j, k = o + 1 + j := ⟨k - (o + 1), by omega⟩
        rw [show o + 1 + j - (o + 1) = j by omega, show o + 1 + j - o = j + 1 by omega]
        have hj : j < r.length := by omega
        simp [List.getD_eq_getElem?_getD, hj]
      · have h2 : ¬ (o ≤ k ∧ k < o + (r.length + 1)) := by omega
        rw [if_neg e2, if_neg e, if_neg h2]
theorem StB.put {w : World} {b : Nat} {s : StF} (h : StB w b s) (s' : StF) : StB (w.setCells b 0 (stL s').toArray.toList) b s' :=
  (Row.setCells (stL s').toArray.toList w _ 0 h (by simp [stL_len])).eqv (fun k hk => by
    rw [if_pos ⟨Nat.zero_le _, by simp [stL_len]; omega⟩]
    simp only [Nat.sub_zero, List.getD_eq_getElem?_getD, List.toList_toArray]
    rw [stL_at s' hk]
    rfl)
theorem Kept.setCells (b : Nat) : ∀ (l : List Value) (w : World) (o : Nat), Kept (fun k => k = b) w (w.setCells b o l)
  | [], w, o => Kept.refl _ _
  | v :: r, w, o => (Kept.set w b o v).trans (Kept.setCells b r _ (o + 1))
theorem stG_one (s : StF) (k : Nat) : (stG s k).oneCell' = true := by
  unfold stG
  split
  · rfl
  · split <;> rfl
theorem stL_one (s : StF) : (stL s).toArray.all (·.oneCell') = true := all_oneCell_toArray (fun v hv => by
  obtain ⟨k, _, rfl⟩ := List.mem_map.1 hv
  exact stG_one s k)
theorem stG_put_34 (s : StF) (v : Int) (j : Nat) : (if j = 34 then .int .u32 v else stG s j) = stG { s with pc := v } j := by
  by_cases e : j = 34
  · subst e; rfl
  · rw [if_neg e]
    unfold stG
    split
    · rfl
    · split <;> first | rfl | exact absurd rfl e
theorem stG_put_35 (s : StF) (v : Int) (j : Nat) : (if j = 35 then .int .u32 v else stG s j) = stG { s with next := v } j := by
  by_cases e : j = 35
  · subst e; rfl
  · rw [if_neg e]
    unfold stG
    split
    · rfl
    · split <;> first | rfl | exact absurd rfl e
theorem stG_put_36 (s : StF) (v : Bool) (j : Nat) : (if j = 36 then .bool v else stG s j) = stG { s with slot := v } j := by
  by_cases e : j = 36
  · subst e; rfl
  · rw [if_neg e]
    unfold stG
    split
    · rfl
    · split <;> first | rfl | exact absurd rfl e
theorem stG_put_0 (s : StF) (v : Int) (j : Nat) : (if j = 0 then .int .u32 v else stG s j) = stG { s with r := updR s.r 0 v } j := by
  by_cases e : j = 0
  · subst e; rfl
  · rw [if_neg e]
    unfold stG
    split
    · dsimp only; rw [updR_other _ _ e]
    · rfl
def placedS (s : StF) (p : Int) : StF := { s with r := updR s.r 0 0, pc := p, next := (p + 4) % 4294967296, slot := false }
def zeroS : StF := ⟨fun _ => 0, 0, 0, 0, 0, false, 0, 0, 0, 0, 0, 0⟩
theorem zeroS_cells : (stL zeroS).toArray = #[.int .u32 0, .int .u32 0, .int .u32 0, .int .u32 0, .int .u32 0, .int .u32 0, .int .u32 0, .int .u32 0, .int .u32 0, .int .u32 0, .int .u32 0, .int .u32 0, .int .u32 0, .int .u32 0, .int .u32 0, .int .u32 0, .int .u32 0, .int .u32 0, .int .u32 0, .int .u32 0, .int .u32 0, .int .u32 0, .int .u32 0, .int .u32 0, .int .u32 0, .int .u32 0, .int .u32 0, .int .u32 0, .int .u32 0, .int .u32 0, .int .u32 0, .int .u32 0, .int .u32 0, .int .u32 0, .int .u32 0, .int .u32 0, .bool false, .int .u32 0, .int .u32 0, .int .u32 0, .int .u32 0, .int .u32 0, .int .i64 0] := rfl
theorem StB.new (w : World) : StB (w.alloc (.cells #[.int .u32 0, .int .u32 0, .int .u32 0, .int .u32 0, .int .u32 0, .int .u32 0, .int .u32 0, .int .u32 0, .int .u32 0, .int .u32 0, .int .u32 0, .int .u32 0, .int .u32 0, .int .u32 0, .int .u32 0, .int .u32 0, .int .u32 0, .int .u32 0, .int .u32 0, .int .u32 0, .int .u32 0, .int .u32 0, .int .u32 0, .int .u32 0, .int .u32 0, .int .u32 0, .int .u32 0, .int .u32 0, .int .u32 0, .int .u32 0, .int .u32 0, .int .u32 0, .int .u32 0, .int .u32 0, .int .u32 0, .int .u32 0, .bool false, .int .u32 0, .int .u32 0, .int .u32 0, .int .u32 0, .int .u32 0, .int .i64 0] 26)) w.heap.size zeroS := by
  rw [← zeroS_cells]
  exact ⟨_, heap_alloc_new w _, by simp [stL_len], fun k hk => by rw [← Array.getElem?_toList, List.toList_toArray]; exact stL_at _ hk⟩
theorem Tryz.infoSt : (Tryz.prog.info? 26).map (·.size) = some 43 := by kernel_rfl
section
variable {s : StF} {p : Int}
set_option maxHeartbeats 8000000 in
set_option maxRecDepth 100000 in
theorem placed_any {w : World} {A : Array Value} (hA : A.size = 45) (hC : ∀ k, k < 43 → A[k]? = some (stG s k)) (hp0 : 0 ≤ p) (hp1 : p < 4294967296) :
    Calls Tryz.prog 9 #[.agg A, .int .u32 p] w fun e w' => e = .returned (.agg (stL (placedS s p)).toArray) ∧ Below w.heap.size w w' := by
  go_enter Tryz.func9, Tryz.ntmps9
  go_upto_region 1 with fail
  have HB0 := (Below.refl w.heap.size w).alloc (Nat.le_refl _) (.cells A 29)
  have HP0 : (w.alloc (.cells A 29)).rangeAt w.heap.size 0 (stL s) := by
    intro j v hj
    have hlt := stL_lt hj
    rw [stL_at s hlt] at hj
    rw [Nat.zero_add, ← hj]
    simp only [World.cell?, heap_alloc_new]
    exact hC j hlt
  have hsz : (w.alloc (.cells A 29)).heap.size = w.heap.size + 1 := by simp
  rw [← hsz]
  generalize w.alloc (.cells A 29) = w1 at *
  clear hC hA
  have HB1 := HB0.alloc (by omega) (.cells #[.int .u32 0, .int .u32 0, .int .u32 0, .int .u32 0, .int .u32 0, .int .u32 0, .int .u32 0, .int .u32 0, .int .u32 0, .int .u32 0, .int .u32 0, .int .u32 0, .int .u32 0, .int .u32 0, .int .u32 0, .int .u32 0, .int .u32 0, .int .u32 0, .int .u32 0, .int .u32 0, .int .u32 0, .int .u32 0, .int .u32 0, .int .u32 0, .int .u32 0, .int .u32 0, .int .u32 0, .int .u32 0, .int .u32 0, .int .u32 0, .int .u32 0, .int .u32 0, .int .u32 0, .int .u32 0, .int .u32 0, .int .u32 0, .bool false, .int .u32 0, .int .u32 0, .int .u32 0, .int .u32 0, .int .u32 0, .int .i64 0] 26)
  have HP1 := World.rangeAt_alloc HP0 (.cells #[.int .u32 0, .int .u32 0, .int .u32 0, .int .u32 0, .int .u32 0, .int .u32 0, .int .u32 0, .int .u32 0, .int .u32 0, .int .u32 0, .int .u32 0, .int .u32 0, .int .u32 0, .int .u32 0, .int .u32 0, .int .u32 0, .int .u32 0, .int .u32 0, .int .u32 0, .int .u32 0, .int .u32 0, .int .u32 0, .int .u32 0, .int .u32 0, .int .u32 0, .int .u32 0, .int .u32 0, .int .u32 0, .int .u32 0, .int .u32 0, .int .u32 0, .int .u32 0, .int .u32 0, .int .u32 0, .int .u32 0, .int .u32 0, .bool false, .int .u32 0, .int .u32 0, .int .u32 0, .int .u32 0, .int .u32 0, .int .i64 0] 26)
  have HS1 := StB.new w1
  rw [hsz] at HS1
  have hsz2 : (w1.alloc (.cells #[.int .u32 0, .int .u32 0, .int .u32 0, .int .u32 0, .int .u32 0, .int .u32 0, .int .u32 0, .int .u32 0, .int .u32 0, .int .u32 0, .int .u32 0, .int .u32 0, .int .u32 0, .int .u32 0, .int .u32 0, .int .u32 0, .int .u32 0, .int .u32 0, .int .u32 0, .int .u32 0, .int .u32 0, .int .u32 0, .int .u32 0, .int .u32 0, .int .u32 0, .int .u32 0, .int .u32 0, .int .u32 0, .int .u32 0, .int .u32 0, .int .u32 0, .int .u32 0, .int .u32 0, .int .u32 0, .int .u32 0, .int .u32 0, .bool false, .int .u32 0, .int .u32 0, .int .u32 0, .int .u32 0, .int .u32 0, .int .i64 0] 26)).heap.size = w.heap.size + 2 := by simp; omega
  generalize w1.alloc (.cells #[.int .u32 0, .int .u32 0, .int .u32 0, .int .u32 0, .int .u32 0, .int .u32 0, .int .u32 0, .int .u32 0, .int .u32 0, .int .u32 0, .int .u32 0, .int .u32 0, .int .u32 0, .int .u32 0, .int .u32 0, .int .u32 0, .int .u32 0, .int .u32 0, .int .u32 0, .int .u32 0, .int .u32 0, .int .u32 0, .int .u32 0, .int .u32 0, .int .u32 0, .int .u32 0, .int .u32 0, .int .u32 0, .int .u32 0, .int .u32 0, .int .u32 0, .int .u32 0, .int .u32 0, .int .u32 0, .int .u32 0, .int .u32 0, .bool false, .int .u32 0, .int .u32 0, .int .u32 0, .int .u32 0, .int .u32 0, .int .i64 0] 26) = w2 at *
  have hi := Tryz.infoSt
  have H2 : StB (w2.alloc (.cells #[.int .u32 0, .int .u32 0, .int .u32 0, .int .u32 0, .int .u32 0, .int .u32 0, .int .u32 0, .int .u32 0, .int .u32 0, .int .u32 0, .int .u32 0, .int .u32 0, .int .u32 0, .int .u32 0, .int .u32 0, .int .u32 0, .int .u32 0, .int .u32 0, .int .u32 0, .int .u32 0, .int .u32 0, .int .u32 0, .int .u32 0, .int .u32 0, .int .u32 0, .int .u32 0, .int .u32 0, .int .u32 0, .int .u32 0, .int .u32 0, .int .u32 0, .int .u32 0, .int .u32 0, .int .u32 0, .int .u32 0, .int .u32 0, .bool false, .int .u32 0, .int .u32 0, .int .u32 0, .int .u32 0, .int .u32 0, .int .i64 0] 26)) (w.heap.size + 2) zeroS := by have := StB.new w2; rwa [hsz2] at this
  have B2 := HB1.alloc (by omega) (.cells #[.int .u32 0, .int .u32 0, .int .u32 0, .int .u32 0, .int .u32 0, .int .u32 0, .int .u32 0, .int .u32 0, .int .u32 0, .int .u32 0, .int .u32 0, .int .u32 0, .int .u32 0, .int .u32 0, .int .u32 0, .int .u32 0, .int .u32 0, .int .u32 0, .int .u32 0, .int .u32 0, .int .u32 0, .int .u32 0, .int .u32 0, .int .u32 0, .int .u32 0, .int .u32 0, .int .u32 0, .int .u32 0, .int .u32 0, .int .u32 0, .int .u32 0, .int .u32 0, .int .u32 0, .int .u32 0, .int .u32 0, .int .u32 0, .bool false, .int .u32 0, .int .u32 0, .int .u32 0, .int .u32 0, .int .u32 0, .int .i64 0] 26)
  have hR2 : StB (w2.alloc (.cells #[.int .u32 0, .int .u32 0, .int .u32 0, .int .u32 0, .int .u32 0, .int .u32 0, .int .u32 0, .int .u32 0, .int .u32 0, .int .u32 0, .int .u32 0, .int .u32 0, .int .u32 0, .int .u32 0, .int .u32 0, .int .u32 0, .int .u32 0, .int .u32 0, .int .u32 0, .int .u32 0, .int .u32 0, .int .u32 0, .int .u32 0, .int .u32 0, .int .u32 0, .int .u32 0, .int .u32 0, .int .u32 0, .int .u32 0, .int .u32 0, .int .u32 0, .int .u32 0, .int .u32 0, .int .u32 0, .int .u32 0, .int .u32 0, .bool false, .int .u32 0, .int .u32 0, .int .u32 0, .int .u32 0, .int .u32 0, .int .i64 0] 26)) (w.heap.size + 1) zeroS := HS1.of_block (((Below.refl _ w2).alloc (Nat.le_refl _) _).block _ (by omega))
  have hwx : (w2.alloc (.cells #[.int .u32 0, .int .u32 0, .int .u32 0, .int .u32 0, .int .u32 0, .int .u32 0, .int .u32 0, .int .u32 0, .int .u32 0, .int .u32 0, .int .u32 0, .int .u32 0, .int .u32 0, .int .u32 0, .int .u32 0, .int .u32 0, .int .u32 0, .int .u32 0, .int .u32 0, .int .u32 0, .int .u32 0, .int .u32 0, .int .u32 0, .int .u32 0, .int .u32 0, .int .u32 0, .int .u32 0, .int .u32 0, .int .u32 0, .int .u32 0, .int .u32 0, .int .u32 0, .int .u32 0, .int .u32 0, .int .u32 0, .int .u32 0, .bool false, .int .u32 0, .int .u32 0, .int .u32 0, .int .u32 0, .int .u32 0, .int .i64 0] 26)).heap.size = w.heap.size + 3 := by simp; omega
  have H3 := H2.put s
  have B3 := B2.trans ((Kept.setCells (w.heap.size + 2) (stL s).toArray.toList (w2.alloc (.cells #[.int .u32 0, .int .u32 0, .int .u32 0, .int .u32 0, .int .u32 0, .int .u32 0, .int .u32 0, .int .u32 0, .int .u32 0, .int .u32 0, .int .u32 0, .int .u32 0, .int .u32 0, .int .u32 0, .int .u32 0, .int .u32 0, .int .u32 0, .int .u32 0, .int .u32 0, .int .u32 0, .int .u32 0, .int .u32 0, .int .u32 0, .int .u32 0, .int .u32 0, .int .u32 0, .int .u32 0, .int .u32 0, .int .u32 0, .int .u32 0, .int .u32 0, .int .u32 0, .int .u32 0, .int .u32 0, .int .u32 0, .int .u32 0, .bool false, .int .u32 0, .int .u32 0, .int .u32 0, .int .u32 0, .int .u32 0, .int .i64 0] 26)) 0).to_below (by omega) (fun k hk => by omega))
  have HR3 := Row.kept (S := fun k => k = w.heap.size + 2) hR2 (Kept.setCells (w.heap.size + 2) (stL s).toArray.toList (w2.alloc (.cells #[.int .u32 0, .int .u32 0, .int .u32 0, .int .u32 0, .int .u32 0, .int .u32 0, .int .u32 0, .int .u32 0, .int .u32 0, .int .u32 0, .int .u32 0, .int .u32 0, .int .u32 0, .int .u32 0, .int .u32 0, .int .u32 0, .int .u32 0, .int .u32 0, .int .u32 0, .int .u32 0, .int .u32 0, .int .u32 0, .int .u32 0, .int .u32 0, .int .u32 0, .int .u32 0, .int .u32 0, .int .u32 0, .int .u32 0, .int .u32 0, .int .u32 0, .int .u32 0, .int .u32 0, .int .u32 0, .int .u32 0, .int .u32 0, .bool false, .int .u32 0, .int .u32 0, .int .u32 0, .int .u32 0, .int .u32 0, .int .i64 0] 26)) 0) (by omega)
  go_upto_region 2 with (first
    | (refine wpList_load_mid rfl 26 (.tmp 6) rfl w.heap.size 0 rfl (stL s) _ HP1 Tryz.underlying26 rfl (by rw [hi, stL_len]) ?_)
    | (refine wpList_store_mid rfl 26 (.tmp 5) (.tmp 7) rfl (w.heap.size + 2) 0 (stL s).toArray rfl rfl (by simpa [stL_len] using H2.there) (by rw [hi]; simp [stL_len]) (stL_one s) ?_))
  generalize (w2.alloc (.cells #[.int .u32 0, .int .u32 0, .int .u32 0, .int .u32 0, .int .u32 0, .int .u32 0, .int .u32 0, .int .u32 0, .int .u32 0, .int .u32 0, .int .u32 0, .int .u32 0, .int .u32 0, .int .u32 0, .int .u32 0, .int .u32 0, .int .u32 0, .int .u32 0, .int .u32 0, .int .u32 0, .int .u32 0, .int .u32 0, .int .u32 0, .int .u32 0, .int .u32 0, .int .u32 0, .int .u32 0, .int .u32 0, .int .u32 0, .int .u32 0, .int .u32 0, .int .u32 0, .int .u32 0, .int .u32 0, .int .u32 0, .int .u32 0, .bool false, .int .u32 0, .int .u32 0, .int .u32 0, .int .u32 0, .int .u32 0, .int .i64 0] 26)).setCells (w.heap.size + 2) 0 (stL s).toArray.toList = w3 at *
  have hsz3 : w.heap.size + 1 < w3.heap.size := HR3.lt
  clear HP0 HP1 HS1 HB1 HB0 H2 B2 hR2 hwx hsz hsz2
  have hx := H3.cell (show 0 < 43 by decide)
  have hf := H3.free 0
  have H4 : StB (w3.setCell ⟨w.heap.size + 2, 0, none⟩ (.int .u32 0)) (w.heap.size + 2) { s with r := updR s.r 0 0 } := (Row.set H3 0 (.int .u32 0)).eqv (fun j hj => stG_put_0 _ _ j)
  have B4 := B3.setCell (p := ⟨w.heap.size + 2, 0, none⟩) (show w.heap.size ≤ w.heap.size + 2 by omega) (.int .u32 0)
  have HR4 := Row.kept HR3 (Kept.set w3 (w.heap.size + 2) 0 (.int .u32 0)) (by omega)
  go_upto_region 3 with fail
  clear hx hf
  generalize w3.setCell ⟨w.heap.size + 2, 0, none⟩ (.int .u32 0) = w4 at *
  have hx := H4.cell (show 34 < 43 by decide)
  have hf := H4.free 34
  have H5 : StB (w4.setCell ⟨w.heap.size + 2, 34, none⟩ (.int .u32 p)) (w.heap.size + 2) { s with r := updR s.r 0 0, pc := p } := (Row.set H4 34 (.int .u32 p)).eqv (fun j hj => stG_put_34 _ _ j)
  have B5 := B4.setCell (p := ⟨w.heap.size + 2, 34, none⟩) (show w.heap.size ≤ w.heap.size + 2 by omega) (.int .u32 p)
  have HR5 := Row.kept HR4 (Kept.set w4 (w.heap.size + 2) 34 (.int .u32 p)) (by omega)
  go_upto_region 4 with fail
  clear hx hf
  generalize w4.setCell ⟨w.heap.size + 2, 34, none⟩ (.int .u32 p) = w5 at *
  have hx := H5.cell (show 35 < 43 by decide)
  have hf := H5.free 35
  have H6 : StB (w5.setCell ⟨w.heap.size + 2, 35, none⟩ (.int .u32 ((p + 4) % 4294967296))) (w.heap.size + 2) { s with r := updR s.r 0 0, pc := p, next := (p + 4) % 4294967296 } := (Row.set H5 35 (.int .u32 ((p + 4) % 4294967296))).eqv (fun j hj => stG_put_35 _ _ j)
  have B6 := B5.setCell (p := ⟨w.heap.size + 2, 35, none⟩) (show w.heap.size ≤ w.heap.size + 2 by omega) (.int .u32 ((p + 4) % 4294967296))
  have HR6 := Row.kept HR5 (Kept.set w5 (w.heap.size + 2) 35 (.int .u32 ((p + 4) % 4294967296))) (by omega)
  go_upto_region 5 with fail
  clear hx hf
  generalize w5.setCell ⟨w.heap.size + 2, 35, none⟩ (.int .u32 ((p + 4) % 4294967296)) = w6 at *
  have hx := H6.cell (show 36 < 43 by decide)
  have hf := H6.free 36
  have H7 : StB (w6.setCell ⟨w.heap.size + 2, 36, none⟩ (.bool false)) (w.heap.size + 2) (placedS s p) := (Row.set H6 36 (.bool false)).eqv (fun j hj => stG_put_36 _ _ j)
  have B7 := B6.setCell (p := ⟨w.heap.size + 2, 36, none⟩) (show w.heap.size ≤ w.heap.size + 2 by omega) (.bool false)
  have HR7 := Row.kept HR6 (Kept.set w6 (w.heap.size + 2) 36 (.bool false)) (by omega)
  go_upto_region 6 with fail
  clear hx hf
  generalize w6.setCell ⟨w.heap.size + 2, 36, none⟩ (.bool false) = w7 at *
  have HT := StB.there HR7
  have HRg := H7.range
  have HP8 := StB.put HR7 (placedS s p)
  have hi8 := Tryz.infoSt
  have B8 := B7.trans ((Kept.setCells (w.heap.size + 1) (stL (placedS s p)).toArray.toList w7 0).to_below (B := w.heap.size) (by have := B7.size; omega) (fun k hk => by omega))
  have hld := run_loadVar_mid (P := Tryz.prog) (w7.setCells (w.heap.size + 1) 0 (stL (placedS s p)).toArray.toList) (w.heap.size + 1) 0 26 (stL (placedS s p)) _ HP8.range Tryz.underlying26 rfl (by rw [hi8, stL_len])
  rename_i K7 hK7
  have hfin : ∀ tm : Array Value, tm.getD 4 undef = .pointer (some ⟨w.heap.size + 1, 0, none⟩) → K7 ⟨tm, []⟩ (w7.setCells (w.heap.size + 1) 0 (stL (placedS s p)).toArray.toList) := by
    intro tm htm
    refine hK7 _ _ ?_
    apply wp_ret
    refine bodyPost_ret (v := .agg (stL (placedS s p)).toArray) ?_ rfl ⟨rfl, B8⟩
    show (results Tryz.f9 tm).run _ _ = _
    have hr : Tryz.f9.results = #[.cell 4 26] := by kernel_rfl
    simp only [results, hr]
    have htm2 : tm[4]?.getD undef = .pointer (some ⟨w.heap.size + 1, 0, none⟩) := by simpa using htm
    have hld2 := hld
    rw [List.toList_toArray] at hld2
    simp [Sem.run_bind, htm2, asAddr, hld2]
  clear hK7
  go_wp2_with (first
    | (refine wpList_load_mid rfl 26 (.tmp 5) rfl (w.heap.size + 2) 0 rfl (stL (placedS s p)) _ HRg Tryz.underlying26 rfl (by rw [hi8, stL_len]) ?_)
    | (refine wpList_store_mid rfl 26 (.tmp 4) (.tmp 16) rfl (w.heap.size + 1) 0 (stL (placedS s p)).toArray rfl rfl (by simpa [stL_len] using HT) (by rw [hi8]; simp [stL_len]) (stL_one _) ?_))
end
end Go.Proofs.YtlnefmgiiogcmaaGreatDoor
namespace Go.Proofs.YtlnefmgiiogcmaaGreatDoor
open Go.RowKit
theorem StB.setPc {w : World} {sb : Nat} {s : StF} (h : StB w sb s) (v : Int) : StB (w.setCell ⟨sb, 34, none⟩ (.int .u32 v)) sb { s with pc := v } := (Row.set h 34 (.int .u32 v)).eqv (fun j hj => stG_put_34 _ _ j)
theorem StB.setNext {w : World} {sb : Nat} {s : StF} (h : StB w sb s) (v : Int) : StB (w.setCell ⟨sb, 35, none⟩ (.int .u32 v)) sb { s with next := v } := (Row.set h 35 (.int .u32 v)).eqv (fun j hj => stG_put_35 _ _ j)
section
variable {w : World} {B sb b r bw ba bh S T D o : Nat} {tv : Value} {wt : Nat → Bool} {s s1 : StF} {F F1 : BusF} {m to code : Int} {kl : List UInt8} {bb : Bool}
end
end Go.Proofs.YtlnefmgiiogcmaaGreatDoor
namespace Go.Proofs.YtlnefmgiiogcmaaGreatDoor
open Go.RowKit
def mpG (X : Regs) (rv wv : Value) : Nat → Value := fun k => if k < 64 then .int .u32 (X k) else if k = 64 then rv else wv
abbrev MpB (w : World) (b : Nat) (X : Regs) (rv wv : Value) : Prop := Row w b 91 66 (mpG X rv wv)
theorem MpB.reg {w : World} {b : Nat} {X : Regs} {rv wv : Value} (h : MpB w b X rv wv) {k : Nat} (hk : k < 64) : w.cell? ⟨b, k, none⟩ = some (.int .u32 (X k)) := by
  have := h.cell (show k < 66 by omega)
  unfold mpG at this
  rw [if_pos hk] at this
  exact this
theorem MpB.set {w : World} {b : Nat} {X : Regs} {rv wv : Value} (h : MpB w b X rv wv) {k : Nat} (hk : k < 64) (v : Int) : MpB (w.setCell ⟨b, k, none⟩ (.int .u32 v)) b (updR X k v) rv wv := by
  refine (Row.set h k (.int .u32 v)).eqv (fun j hj => ?_)
  unfold mpG updR
  by_cases e : j = k
  · subst e
    rw [if_pos rfl, if_pos hk, if_pos rfl]
  · rw [if_neg e, if_neg e]
theorem MpB.eq {w : World} {b : Nat} {X Y : Regs} {rv wv : Value} (h : MpB w b X rv wv) (e : ∀ k, k < 64 → X k = Y k) : MpB w b Y rv wv := by
  refine Row.eqv h (fun j hj => ?_)
  unfold mpG
  by_cases e2 : j < 64
  · rw [if_pos e2, if_pos e2, e j e2]
  · rw [if_neg e2, if_neg e2]
theorem Tryz.zeroMp : Tryz.zeroCells91.toList = List.replicate 64 (.int .u32 0) ++ [.pointer none, .slice none 0 0] := by kernel_rfl
theorem MpB.new (w : World) (rv : Value) : MpB (w.alloc (.cells (Tryz.zeroCells91.setIfInBounds 64 rv) 91)) w.heap.size (fun _ => 0) rv (.slice none 0 0) := by
  have hz := Tryz.zeroMp
  have hsz : Tryz.zeroCells91.size = 66 := by
    rw [← Array.length_toList, hz]
    rfl
  refine ⟨_, heap_alloc_new w _, by rw [Array.size_setIfInBounds, hsz], fun k hk => ?_⟩
  rw [Array.getElem?_setIfInBounds]
  unfold mpG
  by_cases e : 64 = k
  · subst e
    rw [if_pos rfl, if_pos (by rw [hsz]; decide), if_neg (by decide), if_pos rfl]
  · rw [if_neg e, ← Array.getElem?_toList, hz]
    by_cases e2 : k < 64
    · rw [if_pos e2, List.getElem?_append_left (by rw [List.length_replicate]; omega), List.getElem?_replicate, if_pos e2]
    · obtain rfl : k = 65 := by omega
      rfl
def regsP (s : StF) : Regs := fun k => if k < 32 then s.r k else if k = 32 then s.hi else if k = 33 then s.lo else 0
theorem Tryz.infoU32 : (Tryz.prog.info? 22).map (·.size) = some 1 := by kernel_rfl
theorem wpList_copy_row {P : Program} {w : World} {ops : Array Oper} {rest : List Oper} {o : Oper} {a : Act} {Q : Exit → Act → World → Prop} (hgd : o.guard = none) (d s : Operand) (dT sT : TypeId)
    (ho : o.op = .call { callee := .builtin .copy, args := #[d, s], argTypes := #[dT, sT] }) (elem : TypeId) (hu : P.underlying dT = some (.slice elem)) (hsz : (P.info? elem).map (·.size) = some 1)
    (g off dLen dCap : Nat) (ad : Addr) (sLen sCap : Nat) (hd : a.eval d = .slice (some ⟨g, off, none⟩) dLen dCap) (hs : a.eval s = .slice (some ad) sLen sCap)
    (t : TypeId) (n : Nat) (f : Nat → Value) (hR : Row w g t n f) (cs : List Value) (hn : cs.length = Nat.min sLen dLen)
    (hsrc : ∀ j v, cs[j]? = some v → w.cell? (ad.add j) = some v) (hfit : off + cs.length ≤ n) (h1 : ∀ v ∈ cs, v.oneCell' = true)
    (h : ∀ w', Row w' g t n (fun k => if off ≤ k ∧ k < off + cs.length then cs.getD (k - off) (f k) else f k) → Kept (fun k => k = g) w w' → wpList P ops Q rest (a.put o.dst (goInt cs.length)) w') : wpList P ops Q (o :: rest) a w := by
  obtain ⟨cur, h1c, h2c, h3c⟩ := hR.ex
  refine wpList_copy_own hgd d s dT sT ho elem hu hsz g off dLen dCap ad sLen sCap hd hs cur t h1c cs hn hsrc (by rw [h2c]; exact hfit) h1 (h _ ?_ ?_)
  · refine ⟨_, setRow_heap w g _ _ t _ h1c, by simp; omega, fun k hk => ?_⟩
    rw [← Array.getElem?_toList, List.toList_toArray]
    have hl : cur.toList.length = n := by rw [Array.length_toList, h2c]
    have hcur : cur.toList[k]? = some (f k) := by rw [Array.getElem?_toList]; exact h3c k hk
    by_cases e1 : k < off
    · rw [List.getElem?_append_left (by rw [List.length_take]; omega), List.getElem?_take, if_pos e1, hcur, if_neg (by omega)]
    · rw [List.getElem?_append_right (by rw [List.length_take]; omega), List.length_take, show min off cur.toList.length = off by omega]
      by_cases e2 : k < off + cs.length
      · have e3 : off ≤ k ∧ k < off + cs.length := ⟨by omega, e2⟩
        have e4 : k - off < cs.length := by omega
        rw [List.getElem?_append_left e4, if_pos e3, List.getD_eq_getElem?_getD, List.getElem?_eq_getElem e4]
        rfl
      · rw [List.getElem?_append_right (by omega), List.getElem?_drop, if_neg (by omega), ← hcur]
        congr 1
        omega
  · exact ⟨⟨rfl, rfl, rfl, by simp [World.setRow], fun k hk => absurd hk (Nat.not_lt_zero k)⟩, fun k hk e => setRow_other w g k _ e⟩
section
variable {s : StF}
def regL (X : Regs) (n : Nat) : List Value := (List.range n).map fun k => .int .u32 (X k)
theorem regL_len (X : Regs) (n : Nat) : (regL X n).length = n := by simp [regL]
theorem regL_at (X : Regs) {n k : Nat} (hk : k < n) : (regL X n)[k]? = some (.int .u32 (X k)) := by simp [regL, hk]
set_option maxHeartbeats 4000000 in
set_option maxRecDepth 100000 in
theorem newMachineP_any {w : World} {sb r : Nat} (hs : StB w sb s) :
    Calls Tryz.prog 29 #[.pointer (some ⟨sb, 0, none⟩), .pointer (some ⟨r, 0, none⟩)] w fun e w' => ∃ mb, e = .returned (.pointer (some ⟨mb, 0, none⟩)) ∧ w.heap.size ≤ mb ∧ MpB w' mb (regsP s) (.pointer (some ⟨r, 0, none⟩)) (.slice none 0 0) ∧ Below w.heap.size w w' := by
  have hb := (Below.refl w.heap.size w).alloc (Nat.le_refl _) (.cells (Tryz.zeroCells91.setIfInBounds 64 (.pointer (some ⟨r, 0, none⟩))) 91)
  have HB := Lib.hid hb
  have HS := Lib.hid (show StB (w.alloc (.cells (Tryz.zeroCells91.setIfInBounds 64 (.pointer (some ⟨r, 0, none⟩))) 91)) sb s from hs.of_block (hb.block sb hs.lt))
  have HM := Lib.hid (MpB.new w (.pointer (some ⟨r, 0, none⟩)))
  have HLT := Lib.hid hs.lt
  clear hs hb
  go_enter Tryz.func29, Tryz.ntmps29
  go_wp2_with fail
  generalize w.alloc (.cells (Tryz.zeroCells91.setIfInBounds 64 (.pointer (some ⟨r, 0, none⟩))) 91) = W at *
  generalize Tryz.zeroCells91.setIfInBounds 64 (.pointer (some ⟨r, 0, none⟩)) = zc at *
  have HS1 := Lib.hid (StB.drew HS.out)
  have HM1 := Lib.hid (show MpB W.drew w.heap.size (fun _ => 0) (.pointer (some ⟨r, 0, none⟩)) (.slice none 0 0) from HM.out.of_block rfl)
  have HB1 := Lib.hid (HB.out.trans ((Below.refl W.heap.size W).drew.mono HB.out.size))
  go_still_tail 8, (by kernel_rfl)
  change wpList _ _ _ _ _ W.drew
  clear HS HM HB
  generalize W.drew = W1 at *
  refine wpList_copy_row rfl (.tmp 12) (.tmp 16) 27 27 rfl 22 Tryz.underlying27 Tryz.infoU32 w.heap.size 0 64 64 ⟨sb, 0, none⟩ 32 32 rfl rfl 91 66 _ HM1.out (regL s.r 32) (by rw [regL_len]; rfl) ?_ (by rw [regL_len]; decide) ?_ ?_
  · intro j v hj
    have hlt : j < 32 := by have := (List.getElem?_eq_some_iff.1 hj).1; rwa [regL_len] at this
    rw [regL_at s.r hlt] at hj
    cases hj
    rw [addr_add]
    exact HS1.out.reg hlt
  · intro v hv
    obtain ⟨k, _, rfl⟩ := List.mem_map.1 hv
    rfl
  intro w2 hR2 hK2
  have HM2 := Lib.hid (show MpB w2 w.heap.size (fun k => if k < 32 then s.r k else 0) (.pointer (some ⟨r, 0, none⟩)) (.slice none 0 0) from hR2.eqv (fun k hk => by
    rw [regL_len]
    unfold mpG
    by_cases e : k < 32
    · have h1 : 0 ≤ k ∧ k < 0 + 32 := ⟨Nat.zero_le _, by omega⟩
      have h2 : k < 64 := by omega
      rw [if_pos h1, if_pos h2, if_pos h2, Nat.sub_zero, List.getD_eq_getElem?_getD, regL_at s.r e]
      dsimp only
      rw [if_pos e]
      rfl
    · have h1 : ¬ (0 ≤ k ∧ k < 0 + 32) := by omega
      rw [if_neg h1]
      by_cases e2 : k < 64
      · rw [if_pos e2, if_pos e2]
        dsimp only
        rw [if_neg e]
      · rw [if_neg e2, if_neg e2]))
  have HS2 := Lib.hid (show StB w2 sb s from Row.kept HS1.out hK2 (by have := HLT.out; omega))
  have HB2 := Lib.hid (HB1.out.trans (hK2.to_below (by have := HB1.out.size; omega) (fun k hk e => by omega)))
  clear hR2 hK2 HS1 HM1 HB1
  go_wp2_with fail
  have HNE : Hid (sb ≠ w.heap.size) := Lib.hid (by have := HLT.out; omega)
  have a0 : w2.cell? ⟨sb, 32, none⟩ = some (.int .u32 s.hi) := HS2.out.cell (show 32 < 43 by decide)
  have a1 : w2.cell? ⟨sb, 33, none⟩ = some (.int .u32 s.lo) := HS2.out.cell (show 33 < 43 by decide)
  have HM3 := Lib.hid (show MpB w2.drew w.heap.size (fun k => if k < 32 then s.r k else 0) (.pointer (some ⟨r, 0, none⟩)) (.slice none 0 0) from HM2.out.of_block rfl)
  have HM4 := Lib.hid (HM3.out.set (show 32 < 64 by decide) s.hi)
  have HM5 := Lib.hid ((HM4.out.set (show 33 < 64 by decide) s.lo).eq (Y := regsP s) (fun k hk => by
    unfold regsP updR
    by_cases e33 : k = 33
    · subst e33; rfl
    · rw [if_neg e33]
      by_cases e32 : k = 32
      · subst e32; rfl
      · rw [if_neg e32]
        dsimp only
        by_cases e : k < 32
        · rw [if_pos e, if_pos e]
        · rw [if_neg e, if_neg e, if_neg e32, if_neg e33]))
  have z0 := HM2.out.reg (show 32 < 64 by decide)
  have z0f := HM2.out.free 32
  have z1 := HM2.out.reg (show 33 < 64 by decide)
  have z1f := HM2.out.free 33
  have HB5 := Lib.hid (((HB2.out.trans ((Below.refl w2.heap.size w2).drew.mono HB2.out.size)).setCell (p := ⟨w.heap.size, 32, none⟩) (Nat.le_refl _) (.int .u32 s.hi)).setCell (p := ⟨w.heap.size, 33, none⟩) (Nat.le_refl _) (.int .u32 s.lo))
  clear HS2 HM2 HB2
  refine wp_region_held_drew (S := fun w' => (w'.cell? ⟨sb, 32, none⟩ = some (.int .u32 s.hi) ∧ w'.cell? ⟨sb, 33, none⟩ = some (.int .u32 s.lo))) (by kernel_rfl) ?_ (fun hHeld0 => ?_)
  · exact ⟨a0, a1⟩
  refine wpAnyH_take (i := 0) (v := ?_) rfl (by kernel_rfl) (by kernel_rfl) (by kernel_rfl) (fun _ _ _ h => h) (Or.inl ⟨by kernel_rfl, ?_⟩) (by assumption) ?_
  rotate_left
  · (intro wq hSq; (try dsimp only at hSq); go_simp; try with_reducible rfl)
  (try simp only [List.getElem_toArray, List.getElem_cons_succ, List.getElem_cons_zero, Act.put, List.setIfInBounds_toArray, List.set_cons_zero, List.set_cons_succ])
  refine wpAnyH_take (i := 1) (v := ?_) rfl (by kernel_rfl) (by kernel_rfl) (by kernel_rfl) (fun _ _ _ h => h) (Or.inl ⟨by kernel_rfl, ?_⟩) (by assumption) ?_
  rotate_left
  · (intro wq hSq; (try dsimp only at hSq); go_simp; try with_reducible rfl)
  (try simp only [List.getElem_toArray, List.getElem_cons_succ, List.getElem_cons_zero, Act.put, List.setIfInBounds_toArray, List.set_cons_zero, List.set_cons_succ])
  refine wpAnyH_take (i := 2) (v := ?_) rfl (by kernel_rfl) (by kernel_rfl) (by kernel_rfl) (fun _ _ _ h => h) (Or.inl ⟨by kernel_rfl, ?_⟩) (by assumption) ?_
  rotate_left
  · (intro wq hSq; (try dsimp only at hSq); go_simp; try with_reducible rfl)
  (try simp only [List.getElem_toArray, List.getElem_cons_succ, List.getElem_cons_zero, Act.put, List.setIfInBounds_toArray, List.set_cons_zero, List.set_cons_succ])
  refine wpAnyH_take (i := 3) (v := ?_) rfl (by kernel_rfl) (by kernel_rfl) (by kernel_rfl) (fun _ _ _ h => h) (Or.inl ⟨by kernel_rfl, ?_⟩) (by assumption) ?_
  rotate_left
  · (intro wq hSq; (try dsimp only at hSq); go_simp; try with_reducible rfl)
  (try simp only [List.getElem_toArray, List.getElem_cons_succ, List.getElem_cons_zero, Act.put, List.setIfInBounds_toArray, List.set_cons_zero, List.set_cons_succ])
  refine wpAnyH_take (i := 4) (v := ?_) rfl (by kernel_rfl) (by kernel_rfl) (by kernel_rfl) (fun _ _ _ h => h) (Or.inl ⟨by kernel_rfl, ?_⟩) (by assumption) ?_
  rotate_left
  · (intro wq hSq; (try dsimp only at hSq); go_simp; try with_reducible rfl)
  (try simp only [List.getElem_toArray, List.getElem_cons_succ, List.getElem_cons_zero, Act.put, List.setIfInBounds_toArray, List.set_cons_zero, List.set_cons_succ])
  refine wpAnyH_take (i := 5) (v := ?_) rfl (by kernel_rfl) (by kernel_rfl) (by kernel_rfl) (fun _ _ _ h => h) (Or.inl ⟨by kernel_rfl, ?_⟩) (by assumption) ?_
  rotate_left
  · (intro wq hSq; (try dsimp only at hSq); go_simp; try with_reducible rfl)
  (try simp only [List.getElem_toArray, List.getElem_cons_succ, List.getElem_cons_zero, Act.put, List.setIfInBounds_toArray, List.set_cons_zero, List.set_cons_succ])
  refine wpAnyH_take (i := 6) (v := ?_) rfl (by kernel_rfl) (by kernel_rfl) (by kernel_rfl) (fun _ _ _ h => h) (Or.inl ⟨by kernel_rfl, ?_⟩) (by assumption) ?_
  rotate_left
  · (intro wq hSq; (try dsimp only at hSq); go_simp; try with_reducible rfl)
  (try simp only [List.getElem_toArray, List.getElem_cons_succ, List.getElem_cons_zero, Act.put, List.setIfInBounds_toArray, List.set_cons_zero, List.set_cons_succ])
  refine wpAnyH_take (i := 7) (v := ?_) rfl (by kernel_rfl) (by kernel_rfl) (by kernel_rfl) (fun _ _ _ h => h) (Or.inl ⟨by kernel_rfl, ?_⟩) (by assumption) ?_
  rotate_left
  · (intro wq hSq; (try dsimp only at hSq); go_simp; try with_reducible rfl)
  (try simp only [List.getElem_toArray, List.getElem_cons_succ, List.getElem_cons_zero, Act.put, List.setIfInBounds_toArray, List.set_cons_zero, List.set_cons_succ])
  refine wpAnyH_take (i := 8) (v := ?_) rfl (by kernel_rfl) (by kernel_rfl) (by kernel_rfl) (fun _ _ _ h => h) (Or.inl ⟨by kernel_rfl, ?_⟩) (by assumption) ?_
  rotate_left
  · (intro wq hSq; (try dsimp only at hSq); go_simp; try with_reducible rfl)
  (try simp only [List.getElem_toArray, List.getElem_cons_succ, List.getElem_cons_zero, Act.put, List.setIfInBounds_toArray, List.set_cons_zero, List.set_cons_succ])
  refine wpAnyH_take (i := 9) (v := ?_) rfl (by kernel_rfl) (by kernel_rfl) (by kernel_rfl) (fun _ _ _ h => h) (Or.inl ⟨by kernel_rfl, ?_⟩) (by assumption) ?_
  rotate_left
  · (intro wq hSq; (try dsimp only at hSq); go_simp; try with_reducible rfl)
  (try simp only [List.getElem_toArray, List.getElem_cons_succ, List.getElem_cons_zero, Act.put, List.setIfInBounds_toArray, List.set_cons_zero, List.set_cons_succ])
  refine wpAnyH_take (i := 10) (v := ?_) rfl (by kernel_rfl) (by kernel_rfl) (by kernel_rfl) (fun _ _ _ h => h) (Or.inl ⟨by kernel_rfl, ?_⟩) (by assumption) ?_
  rotate_left
  · (intro wq hSq; (try dsimp only at hSq); go_simp; try with_reducible rfl)
  (try simp only [List.getElem_toArray, List.getElem_cons_succ, List.getElem_cons_zero, Act.put, List.setIfInBounds_toArray, List.set_cons_zero, List.set_cons_succ])
  refine wpAnyH_take (i := 11) (v := ?_) rfl (by kernel_rfl) (by kernel_rfl) (by kernel_rfl) (fun _ _ _ h => h) (Or.inl ⟨by kernel_rfl, ?_⟩) (by assumption) ?_
  rotate_left
  · (intro wq hSq; (try dsimp only at hSq); go_simp; try with_reducible rfl)
  (try simp only [List.getElem_toArray, List.getElem_cons_succ, List.getElem_cons_zero, Act.put, List.setIfInBounds_toArray, List.set_cons_zero, List.set_cons_succ])
  refine wpAnyH_take (i := 12) (v := ?_) rfl (by kernel_rfl) (by kernel_rfl) (by kernel_rfl) (fun _ _ _ h => h) (Or.inl ⟨by kernel_rfl, ?_⟩) (by assumption) ?_
  rotate_left
  · (intro wq hSq; (try dsimp only at hSq); go_simp; try with_reducible rfl)
  (try simp only [List.getElem_toArray, List.getElem_cons_succ, List.getElem_cons_zero, Act.put, List.setIfInBounds_toArray, List.set_cons_zero, List.set_cons_succ])
  refine wpAnyH_take (i := 14) (v := ?_) rfl (by kernel_rfl) (by kernel_rfl) (by kernel_rfl) (fun _ _ _ h => h) (Or.inl ⟨by kernel_rfl, ?_⟩) (by assumption) ?_
  rotate_left
  · (intro wq hSq; (try dsimp only at hSq); go_simp; try with_reducible rfl)
  (try simp only [List.getElem_toArray, List.getElem_cons_succ, List.getElem_cons_zero, Act.put, List.setIfInBounds_toArray, List.set_cons_zero, List.set_cons_succ])
  refine wpAnyH_take (i := 15) (v := ?_) rfl (by kernel_rfl) (by kernel_rfl) (by kernel_rfl) (fun _ _ _ h => h) (Or.inl ⟨by kernel_rfl, ?_⟩) (by assumption) ?_
  rotate_left
  · (intro wq hSq; (try dsimp only at hSq); go_simp; try with_reducible rfl)
  (try simp only [List.getElem_toArray, List.getElem_cons_succ, List.getElem_cons_zero, Act.put, List.setIfInBounds_toArray, List.set_cons_zero, List.set_cons_succ])
  refine wpAnyH_ready (rs := [13]) (by kernel_rfl) (by simp) ?_
  refine AllReadyH.cons rfl (fun K9 hK9 => ?_) AllReadyH.nil
  go_simp
  refine hK9.out _ _ ?_ (fun hHeld1 => ?_)
  · exact ⟨(cell_setCell_block _ _ _ _ HNE.out).trans hHeld0.1, (cell_setCell_block _ _ _ _ HNE.out).trans hHeld0.2⟩
  clear hK9 K9
  (try simp only [List.getElem_toArray, List.getElem_cons_succ, List.getElem_cons_zero, Act.put, List.setIfInBounds_toArray, List.set_cons_zero, List.set_cons_succ])
  refine wpAnyH_take (i := 16) (v := ?_) rfl (by kernel_rfl) (by kernel_rfl) (by kernel_rfl) (fun _ _ _ h => h) (Or.inl ⟨by kernel_rfl, ?_⟩) (by assumption) ?_
  rotate_left
  · (intro wq hSq; (try dsimp only at hSq); go_simp; try with_reducible rfl)
  (try simp only [List.getElem_toArray, List.getElem_cons_succ, List.getElem_cons_zero, Act.put, List.setIfInBounds_toArray, List.set_cons_zero, List.set_cons_succ])
  refine wpAnyH_ready (rs := [17]) (by kernel_rfl) (by simp) ?_
  refine AllReadyH.cons rfl (fun K9 hK9 => ?_) AllReadyH.nil
  go_simp
  refine hK9.out _ _ ?_ (fun hHeld2 => ?_)
  · exact ⟨(cell_setCell_block _ _ _ _ HNE.out).trans hHeld1.1, (cell_setCell_block _ _ _ _ HNE.out).trans hHeld1.2⟩
  clear hK9 K9
  (try simp only [List.getElem_toArray, List.getElem_cons_succ, List.getElem_cons_zero, Act.put, List.setIfInBounds_toArray, List.set_cons_zero, List.set_cons_succ])
  refine wpAnyH_done (by kernel_rfl) ?_ _
  go_wp2
  go_ret
  exact ⟨w.heap.size, rfl, Nat.le_refl _, HM5.out, HB5.out⟩
end
end Go.Proofs.YtlnefmgiiogcmaaGreatDoor
namespace Go.Proofs.YtlnefmgiiogcmaaGreatDoor
open Go.RowKit
def leavesK (k : OpK) : Bool := match k with | .cond => true | .out => true | .outr => true | _ => false
theorem irLeaves_any (k : OpK) (w : World) : Calls Tryz.prog 30 #[.string (bsl k.text)] w fun e w' => e = .returned (.bool (leavesK k)) ∧ w = w' := by
  rw [lit_text]
  cases k <;> simp only [OpK.lit, leavesK] <;> (go_enter Tryz.func30, Tryz.ntmps30; go_wp2; go_ret; exact ⟨rfl, rfl⟩)
theorem irReady_yes {w : World} {sb : Nat} {s : StF} (h : StB w sb s) (hp : s.slot = false) (hn : s.next = (s.pc + 4) % 4294967296) :
    Calls Tryz.prog 28 #[.pointer (some ⟨sb, 0, none⟩), .int .u32 s.pc] w fun e w' => e = .returned (.bool true) ∧ w = w' := by
  have c0 : w.cell? ⟨sb, 36, none⟩ = some (.bool false) := by have := h.cell (show 36 < 43 by decide); rw [this, ← hp]; rfl
  have c1 : w.cell? ⟨sb, 34, none⟩ = some (.int .u32 s.pc) := h.cell (show 34 < 43 by decide)
  have c2 : w.cell? ⟨sb, 35, none⟩ = some (.int .u32 ((s.pc + 4) % 4294967296)) := by have := h.cell (show 35 < 43 by decide); rw [this, ← hn]; rfl
  clear h hp hn
  generalize s.pc = p at *
  go_enter Tryz.func28, Tryz.ntmps28
  go_wp2
  go_ret
  exact ⟨by simp, rfl⟩
set_option maxHeartbeats 4000000 in
set_option maxRecDepth 100000 in
theorem doP_set {w : World} {mb d a n : Nat} {b im : Int} {X : Regs} {rv wv : Value} (h : MpB w mb X rv wv) (hd : d < 64) (ha : a < 64) (hb0 : 0 ≤ b) (hb1 : b < 64) :
    Calls Tryz.prog 33 #[.pointer (some ⟨mb, 0, none⟩), .agg #[.string ⟨#[115, 101, 116]⟩, .int .i64 (d : Int), .int .i64 (a : Int), .int .i64 b, .int .u32 im, .int .i64 (n : Int)]] w fun e w' => e = .returned (.bool true) ∧ MpB w' mb (updR X d (im)) rv wv ∧ Kept (fun k => k = mb) w w' := by
  obtain ⟨bn, rfl⟩ := Int.eq_ofNat_of_zero_le hb0
  have hbn : bn < 64 := by omega
  have hb' := (Below.refl w.heap.size w).alloc (Nat.le_refl _) (.cells #[.string ⟨#[115, 101, 116]⟩, .int .i64 (d : Int), .int .i64 (a : Int), .int .i64 (bn : Int), .int .u32 im, .int .i64 (n : Int)] 61)
  have HM0 : Hid (MpB (w.alloc (.cells #[.string ⟨#[115, 101, 116]⟩, .int .i64 (d : Int), .int .i64 (a : Int), .int .i64 (bn : Int), .int .u32 im, .int .i64 (n : Int)] 61)) mb X rv wv) := Lib.hid (h.of_block (hb'.block mb h.lt))
  have HBX : Hid ((w.alloc (.cells #[.string ⟨#[115, 101, 116]⟩, .int .i64 (d : Int), .int .i64 (a : Int), .int .i64 (bn : Int), .int .u32 im, .int .i64 (n : Int)] 61)).heap[w.heap.size]? = some (.cells #[.string ⟨#[115, 101, 116]⟩, .int .i64 (d : Int), .int .i64 (a : Int), .int .i64 (bn : Int), .int .u32 im, .int .i64 (n : Int)] 61 (0, 0))) := Lib.hid (heap_alloc_new w _)
  have HK0 := Lib.hid (Kept.of_below (S := fun k => k = mb) hb')
  have HLT := Lib.hid h.lt
  have HN := Lib.hid (And.intro hd (And.intro ha hbn))
  have iD : (d : Int) < 64 := by omega
  have iA : (a : Int) < 64 := by omega
  have iB : (bn : Int) < 64 := by omega
  clear h hb' hd ha hb0 hb1 hbn
  go_enter Tryz.func33, Tryz.ntmps33
  go_wp2_with fail
  generalize w.alloc (.cells #[.string ⟨#[115, 101, 116]⟩, .int .i64 (d : Int), .int .i64 (a : Int), .int .i64 (bn : Int), .int .u32 im, .int .i64 (n : Int)] 61) = W at *
  obtain ⟨c0, c1, c2, c3, c4, c5⟩ := six_cells HBX.out
  have hx := HM0.out.reg HN.out.2.1
  go_still (by kernel_rfl)
  change Exit.then _ _ Exit.normal _ W.drew
  have HBX1 : Hid (W.drew.heap[w.heap.size]? = _) := HBX
  have HM1 := Lib.hid (show MpB W.drew mb X rv wv from HM0.out.of_block rfl)
  have HK1 := Lib.hid (HK0.out.trans (Kept.of_below (Below.refl _ W).drew))
  clear c0 c1 c2 c3 c4 c5 hx HBX HM0 HK0
  generalize W.drew = W1 at *
  obtain ⟨c0, c1, c2, c3, c4, c5⟩ := six_cells HBX1.out
  go_wp2_with fail
  have hy := HM1.out.reg HN.out.2.2
  go_still (by kernel_rfl)
  change Exit.then _ _ Exit.normal _ W1.drew
  have HBX2 : Hid (W1.drew.heap[w.heap.size]? = _) := HBX1
  have HM2 := Lib.hid (show MpB W1.drew mb X rv wv from HM1.out.of_block rfl)
  have HK2 := Lib.hid (HK1.out.trans (Kept.of_below (Below.refl _ W1).drew))
  clear c0 c1 c2 c3 c4 c5 hy HBX1 HM1 HK1
  generalize W1.drew = W2 at *
  obtain ⟨c0, c1, c2, c3, c4, c5⟩ := six_cells HBX2.out
  go_wp2_with fail
  have hz := HM2.out.reg HN.out.1
  have hzf := HM2.out.free d
  have HM3 := Lib.hid ((show MpB W2.drew mb X rv wv from HM2.out.of_block rfl).set HN.out.1 (im))
  have HK3 := Lib.hid ((HK2.out.trans (Kept.of_below (Below.refl _ W2).drew)).trans (Kept.set W2.drew mb d (.int .u32 (im))))
  refine wp_region_still_tail 8 (by kernel_rfl) (by kernel_rfl) ?_
  simp only [List.take_succ_cons, List.take_zero, List.drop_succ_cons, List.drop_zero]
  repeat still_step
  try refine wpStill_nil ?_
  change wpList _ _ _ _ _ W2.drew
  have hzd : W2.drew.cell? ⟨mb, d, none⟩ = some _ := hz
  have hzfd : W2.drew.frozen? ⟨mb, d, none⟩ = false := hzf
  clear hz hzf c0 c1 c2 c3 c4 c5
  generalize W2.drew = W3 at *
  go_wp2
  go_ret
  exact ⟨rfl, HM3.out, HK3.out⟩
end Go.Proofs.YtlnefmgiiogcmaaGreatDoor
namespace Go.Proofs.YtlnefmgiiogcmaaGreatDoor
open Go.RowKit
theorem w32_range (x : Int) : -2147483648 ≤ wrap32 x ∧ wrap32 x < 2147483648 := by unfold wrap32; omega
theorem w32_64 (x : Int) : wrap64 (wrap32 x) = wrap32 x := IntWalk.wrap64_in _ ⟨by have := w32_range x; omega, by have := w32_range x; omega⟩
theorem w32_mod (x : Int) : wrap32 (x % 4294967296) = wrap32 x := by unfold wrap32; omega
theorem w32_add (a b : Int) : wrap32 (a + b) = wrap32 (wrap32 a + wrap32 b) := by unfold wrap32; omega
theorem w32_sub (a b : Int) : wrap32 (a - b) = wrap32 (wrap32 a - wrap32 b) := by unfold wrap32; omega
theorem w32_fits (s : Int) : (s != wrap32 s) = !fitsZ s := by
  unfold fitsZ
  by_cases h : -2147483648 ≤ s ∧ s < 2147483648
  · rw [decide_eq_true h]
    have : wrap32 s = s := by unfold wrap32; omega
    rw [this]
    simp
  · rw [decide_eq_false h]
    have : s ≠ wrap32 s := by have := w32_range s; omega
    simpa using this
theorem w64_add (a b : Int) : wrap64 (wrap32 a + wrap32 b) = wrap32 a + wrap32 b := IntWalk.wrap64_in _ ⟨by have := w32_range a; have := w32_range b; omega, by have := w32_range a; have := w32_range b; omega⟩
theorem w64_sub (a b : Int) : wrap64 (wrap32 a - wrap32 b) = wrap32 a - wrap32 b := IntWalk.wrap64_in _ ⟨by have := w32_range a; have := w32_range b; omega, by have := w32_range a; have := w32_range b; omega⟩
theorem mul_abs {x y : Int} (hx : -2147483648 ≤ x ∧ x < 2147483648) (hy : -2147483648 ≤ y ∧ y < 2147483648) : -4611686018427387904 ≤ x * y ∧ x * y ≤ 4611686018427387904 := by
  have h1 : x.natAbs ≤ 2147483648 := by omega
  have h2 : y.natAbs ≤ 2147483648 := by omega
  have h3 : (x * y).natAbs ≤ 2147483648 * 2147483648 := by rw [Int.natAbs_mul]; exact Nat.mul_le_mul h1 h2
  have h4 : (x * y).natAbs ≤ 4611686018427387904 := h3
  omega
theorem w64_mul (a b : Int) : wrap64 (wrap32 a * wrap32 b) = wrap32 a * wrap32 b := IntWalk.wrap64_in _ ⟨by have := mul_abs (w32_range a) (w32_range b); omega, by have := mul_abs (w32_range a) (w32_range b); omega⟩
theorem u64_wrap (p : Int) : IntKind.u64.wrap p = p % 18446744073709551616 := rfl
theorem u64_lo (p : Int) : IntKind.u64.wrap p % 4294967296 = p % 4294967296 := by
  rw [u64_wrap]
  exact Int.emod_emod_of_dvd p (by decide)
theorem u64_hi (p : Int) : IntKind.u64.wrap p / 4294967296 % 4294967296 = p / 4294967296 % 4294967296 := by
  rw [u64_wrap]
  have h := Int.emod_add_mul_ediv p 18446744073709551616
  generalize p % 18446744073709551616 = r at *
  generalize p / 18446744073709551616 = q at *
  subst h
  rw [show r + 18446744073709551616 * q = r + 4294967296 * (4294967296 * q) by rw [← Int.mul_assoc]; rfl, Int.add_mul_ediv_left _ _ (by decide), Int.add_mul_emod_self_left]
theorem wordAdd (a b : Int) (ha : Reg32 a) (hb : Reg32 b) (w : World) : Calls Tryz.prog 86 #[.int .u32 a, .int .u32 b] w fun e w' => e = .returned (.tuple #[.int .u32 ((a + b) % 4294967296), .bool (!fitsZ (wrap32 a + wrap32 b))]) ∧ w = w' := by
  obtain ⟨a0, a1⟩ := ha
  obtain ⟨b0, b1⟩ := hb
  have HV := Lib.hid (show (wrap32 a + wrap32 b != wrap32 ((a + b) % 4294967296)) = !fitsZ (wrap32 a + wrap32 b) by rw [w32_mod, w32_add, w32_fits])
  have e1 := w32_64 a
  have e2 := w32_64 b
  have e3 := w64_add a b
  have e4 := w32_64 ((a + b) % 4294967296)
  go_enter Tryz.func86, Tryz.ntmps86
  go_wp2
  go_ret2
  exact ⟨by rw [HV.out]; rfl, rfl⟩
theorem wordSub (a b : Int) (ha : Reg32 a) (hb : Reg32 b) (w : World) : Calls Tryz.prog 87 #[.int .u32 a, .int .u32 b] w fun e w' => e = .returned (.tuple #[.int .u32 ((a - b) % 4294967296), .bool (!fitsZ (wrap32 a - wrap32 b))]) ∧ w = w' := by
  obtain ⟨a0, a1⟩ := ha
  obtain ⟨b0, b1⟩ := hb
  have HV := Lib.hid (show (wrap32 a - wrap32 b != wrap32 ((a - b) % 4294967296)) = !fitsZ (wrap32 a - wrap32 b) by rw [w32_mod, w32_sub, w32_fits])
  have e1 := w32_64 a
  have e2 := w32_64 b
  have e3 := w64_sub a b
  have e4 := w32_64 ((a - b) % 4294967296)
  go_enter Tryz.func87, Tryz.ntmps87
  go_wp2
  go_ret2
  exact ⟨by rw [HV.out]; rfl, rfl⟩
theorem wordShl (a n : Int) (ha : Reg32 a) (hn : Reg32 n) (w : World) : Calls Tryz.prog 102 #[.int .u8 60, .int .u32 a, .int .u32 n] w fun e w' => e = .returned (.int .u32 (shlZ a n)) ∧ w = w' := by
  obtain ⟨a0, a1⟩ := ha
  obtain ⟨b0, b1⟩ := hn
  go_enter Tryz.func102, Tryz.ntmps102
  go_wp2
  go_ret
  exact ⟨rfl, rfl⟩
theorem wordShr (a n : Int) (ha : Reg32 a) (hn : Reg32 n) (w : World) : Calls Tryz.prog 102 #[.int .u8 62, .int .u32 a, .int .u32 n] w fun e w' => e = .returned (.int .u32 (shrZ a n)) ∧ w = w' := by
  obtain ⟨a0, a1⟩ := ha
  obtain ⟨b0, b1⟩ := hn
  go_enter Tryz.func102, Tryz.ntmps102
  go_wp2
  go_ret
  exact ⟨rfl, rfl⟩
theorem wordSar (a n : Int) (ha : Reg32 a) (hn : Reg32 n) (w : World) : Calls Tryz.prog 102 #[.int .u8 126, .int .u32 a, .int .u32 n] w fun e w' => e = .returned (.int .u32 (sarZ a n)) ∧ w = w' := by
  obtain ⟨a0, a1⟩ := ha
  obtain ⟨b0, b1⟩ := hn
  go_enter Tryz.func102, Tryz.ntmps102
  go_wp2
  go_ret
  exact ⟨rfl, rfl⟩
theorem wordMul (a b : Int) (s : Bool) (ha : Reg32 a) (hb : Reg32 b) (w : World) : Calls Tryz.prog 103 #[.int .u32 a, .int .u32 b, .bool s] w fun e w' => e = .returned (.tuple #[.int .u32 (mulZ a b s).1, .int .u32 (mulZ a b s).2]) ∧ w = w' := by
  obtain ⟨a0, a1⟩ := ha
  obtain ⟨b0, b1⟩ := hb
  have e1 := w32_64 a
  have e2 := w32_64 b
  have e3 := w64_mul a b
  cases s with
  | true =>
    go_enter Tryz.func103, Tryz.ntmps103
    go_wp2
    go_ret2
    exact ⟨by rw [u64_hi, u64_lo]; rfl, rfl⟩
  | false =>
    go_enter Tryz.func103, Tryz.ntmps103
    go_wp2
    go_ret2
    exact ⟨by rw [u64_hi, u64_lo]; rfl, rfl⟩
theorem wordLess (a b : Int) (s : Bool) (ha : Reg32 a) (hb : Reg32 b) (w : World) : Calls Tryz.prog 104 #[.int .u32 a, .int .u32 b, .bool s] w fun e w' => e = .returned (.bool (if s = true then decide (wrap32 a < wrap32 b) else decide (a < b))) ∧ w = w' := by
  cases s with
  | true =>
    go_enter Tryz.func104, Tryz.ntmps104
    go_wp2
    go_ret
    exact ⟨rfl, rfl⟩
  | false =>
    go_enter Tryz.func104, Tryz.ntmps104
    go_wp2
    go_ret
    exact ⟨rfl, rfl⟩
def divV (x : Option (Int × Int)) : Value := match x with | some r => .tuple #[.int .u32 r.1, .int .u32 r.2, .bool true] | none => .tuple #[.int .u32 0, .int .u32 0, .bool false]
theorem w32_inj0 {b : Int} (hb : Reg32 b) (h : b ≠ 0) : wrap32 b ≠ 0 := by
  obtain ⟨b0, b1⟩ := hb
  unfold wrap32
  omega
theorem wordDiv_zero (a : Int) (s : Bool) (w : World) : Calls Tryz.prog 80 #[.int .u32 a, .int .u32 0, .bool s] w fun e w' => e = .returned (divV (divZ a 0 s)) ∧ Below w.heap.size w w' := by
  have hv : divV (divZ a 0 s) = .tuple #[.int .u32 0, .int .u32 0, .bool false] := by unfold divZ; rw [if_pos rfl]; rfl
  rw [hv]
  go_enter Tryz.func80, Tryz.ntmps80
  go_wp2
  go_ret3
  exact ⟨rfl, Below.refl _ _⟩
theorem wordDiv_u (a b : Int) (ha : Reg32 a) (hb : Reg32 b) (h0 : b ≠ 0) (w : World) : Calls Tryz.prog 80 #[.int .u32 a, .int .u32 b, .bool false] w fun e w' => e = .returned (divV (divZ a b false)) ∧ Below w.heap.size w w' := by
  have hv : divV (divZ a b false) = .tuple #[.int .u32 (a / b), .int .u32 (a % b), .bool true] := by unfold divZ; rw [if_neg h0]; rfl
  rw [hv]
  obtain ⟨a0, a1⟩ := ha
  obtain ⟨b0, b1⟩ := hb
  have hb1 : 0 < b := by omega
  have hbz : (b == 0) = false := by simpa using h0
  go_enter Tryz.func80, Tryz.ntmps80
  go_wp2_with fail
  go_quiet (fail)
  go_wp2
  go_ret3
  exact ⟨rfl, blw_drewN (Below.refl _ _) _⟩
theorem wordDiv_s (a b : Int) (ha : Reg32 a) (hb : Reg32 b) (h0 : b ≠ 0) (w : World) : Calls Tryz.prog 80 #[.int .u32 a, .int .u32 b, .bool true] w fun e w' => e = .returned (divV (divZ a b true)) ∧ Below w.heap.size w w' := by
  have hw0 := w32_inj0 hb h0
  obtain ⟨a0, a1⟩ := ha
  obtain ⟨b0, b1⟩ := hb
  have hbz : (b == 0) = false := by simpa using h0
  have hv : divV (divZ a b true) = .tuple #[.int .u32 ((wrap32 a).tdiv (wrap32 b) % 4294967296), .int .u32 ((wrap32 a).tmod (wrap32 b) % 4294967296), .bool true] := by unfold divZ; rw [if_neg h0]; rfl
  rw [hv]
  by_cases hm : wrap32 a = -2147483648
  · by_cases hq : wrap32 b = -1
    · have hav : (wrap32 a).tdiv (wrap32 b) % 4294967296 = a := by
        rw [hm, hq]
        have : a = 2147483648 := by unfold wrap32 at hm; omega
        rw [this]
        decide
      have haw : (wrap32 a).tmod (wrap32 b) % 4294967296 = 0 := by
        rw [hm, hq]
        decide
      rw [hav, haw]
      have e1 : (wrap32 a == -2147483648) = true := by simpa using hm
      have e2 : (wrap32 b == -1) = true := by simpa using hq
      clear hm hq hav haw hv
      go_enter Tryz.func80, Tryz.ntmps80
      go_wp2
      go_ret3
      exact ⟨rfl, Below.refl _ _⟩
    · have e1 : (wrap32 a == -2147483648) = true := by simpa using hm
      have e2 : (wrap32 b == -1) = false := by simpa using hq
      have e3 : (wrap32 b == 0) = false := by simpa using hw0
      have HV := Lib.hid hv
      have HM := Lib.hid hm
      have HQ := Lib.hid hq
      clear hm hq hv
      go_enter Tryz.func80, Tryz.ntmps80
      go_wp2_with fail
      go_quiet (fail)
      go_wp2
      go_ret3
      exact ⟨by rw [← wrap_mod ((wrap32 a).tdiv (wrap32 b))]; rfl, blw_drewN (Below.refl _ _) _⟩
  · have e1 : (wrap32 a == -2147483648) = false := by simpa using hm
    have e3 : (wrap32 b == 0) = false := by simpa using hw0
    have HM := Lib.hid hm
    clear hm
    go_enter Tryz.func80, Tryz.ntmps80
    go_wp2_with fail
    go_quiet (fail)
    go_wp2
    go_ret3
    exact ⟨by rw [← wrap_mod ((wrap32 a).tdiv (wrap32 b))]; rfl, blw_drewN (Below.refl _ _) _⟩
theorem wordDiv (a b : Int) (s : Bool) (ha : Reg32 a) (hb : Reg32 b) (w : World) : Calls Tryz.prog 80 #[.int .u32 a, .int .u32 b, .bool s] w fun e w' => e = .returned (divV (divZ a b s)) ∧ Below w.heap.size w w' := by
  by_cases h0 : b = 0
  · subst h0
    exact wordDiv_zero a s w
  · cases s with
    | true => exact wordDiv_s a b ha hb h0 w
    | false => exact wordDiv_u a b ha hb h0 w
end Go.Proofs.YtlnefmgiiogcmaaGreatDoor
namespace Go.Proofs.YtlnefmgiiogcmaaGreatDoor
open Go.RowKit
def divO (k : OpK) : Bool := match k with | .quo => true | .rem => true | .quou => true | .remu => true | _ => false
def rdO (o : OpN) : List Nat := match o.kind with
  | .copy => [o.a] | .load => [o.a] | .cond => [o.a] | .outr => [o.a]
  | .overP => [o.a, o.b.toNat] | .overM => [o.a, o.b.toNat] | .store => [o.a, o.b.toNat]
  | .quo => [o.a, o.b.toNat, o.d] | .rem => [o.a, o.b.toNat, o.d] | .quou => [o.a, o.b.toNat, o.d] | .remu => [o.a, o.b.toNat, o.d]
  | .set => [] | .out => []
  | _ => [o.a, o.b.toNat]
def wrO (o : OpN) : Nat := match o.kind with
  | .overP => 0 | .overM => 0 | .store => 0 | .cond => 0 | .out => 0 | .outr => 0 | _ => o.d
def leavesO (k : OpK) : Bool := match k with | .cond => true | .out => true | .outr => true | _ => false
def valO (o : OpN) (X : Regs) (ws : List Int) : Int := match o.kind with
  | .set => o.imm
  | .copy => X o.a
  | .load => wideZ (loadN ws ((X o.a + o.imm) % 4294967296).toNat o.b.natAbs) o.b.natAbs (decide (o.b < 0))
  | .quo => match divZ (X o.a) (X o.b.toNat) true with | some r => r.1 | none => X o.d
  | .rem => match divZ (X o.a) (X o.b.toNat) true with | some r => r.2 | none => X o.d
  | .quou => match divZ (X o.a) (X o.b.toNat) false with | some r => r.1 | none => X o.d
  | .remu => match divZ (X o.a) (X o.b.toNat) false with | some r => r.2 | none => X o.d
  | k => sumZ k (X o.a) (X o.b.toNat)
def trapO (wt : Nat → Bool) (o : OpN) (X : Regs) : Bool := match o.kind with
  | .overP => !fitsZ (wrap32 (X o.a) + wrap32 (X o.b.toNat))
  | .overM => !fitsZ (wrap32 (X o.a) - wrap32 (X o.b.toNat))
  | .load => !reach ((X o.a + o.imm) % 4294967296) o.b.natAbs
  | .store => !(reach ((X o.a + o.imm) % 4294967296) o.d && !wt (((X o.a + o.imm) % 4294967296).toNat / 256))
  | _ => false
def goesO (o : OpN) (X : Regs) : Option Int := match o.kind with
  | .cond => if X o.a ≠ 0 then some o.imm else none
  | .out => some o.imm
  | .outr => some (X o.a)
  | _ => none
def regO (o : OpN) (v : Int) (X : Regs) : Regs := if wrO o = 0 then X else updR X (wrO o) v
def memO (o : OpN) (X : Regs) (ws : List Int) : List Int := if storeK o.kind = true then storeN ((X o.a + o.imm) % 4294967296).toNat o.d (X o.b.toNat) o.d ws else ws
theorem updR_id (X : Regs) (d : Nat) : updR X d (X d) = X := by
  funext k
  unfold updR
  by_cases e : k = d
  · rw [if_pos e, e]
  · rw [if_neg e]
theorem evalZ_cons (wt : Nat → Bool) (o : OpN) (os : List OpN) (X : Regs) (ws : List Int) (hg : opG o) :
    evalZ wt (o :: os) X ws = if trapO wt o X = true then .trap o.at' else match goesO o X with | some pc => .leave pc X ws | none => evalZ wt os (regO o (valO o X ws) X) (memO o X ws) := by
  obtain ⟨k, d, a, b, imm, n⟩ := o
  cases k with
  | set => obtain ⟨g1, _⟩ := hg; simp only at g1; simp [evalZ, trapO, goesO, regO, memO, valO, wrO, storeK, show ¬ d = 0 by omega]
  | copy => obtain ⟨g1, _⟩ := hg; simp only at g1; simp [evalZ, trapO, goesO, regO, memO, valO, wrO, storeK, show ¬ d = 0 by omega]
  | overP => by_cases h : fitsZ (wrap32 (X a) + wrap32 (X b.toNat)) = true <;> simp [evalZ, trapO, goesO, regO, memO, valO, wrO, storeK, h]
  | overM => by_cases h : fitsZ (wrap32 (X a) - wrap32 (X b.toNat)) = true <;> simp [evalZ, trapO, goesO, regO, memO, valO, wrO, storeK, h]
  | load =>
    obtain ⟨g1, _⟩ := hg
    simp only at g1
    by_cases h : reach ((X a + imm) % 4294967296) b.natAbs = true <;> simp [evalZ, trapO, goesO, regO, memO, valO, wrO, storeK, h, show ¬ d = 0 by omega]
  | store =>
    by_cases h : reach ((X a + imm) % 4294967296) d = true <;> by_cases h2 : wt (((X a + imm) % 4294967296).toNat / 256) = true <;> simp [evalZ, trapO, goesO, regO, memO, valO, wrO, storeK, h, h2]
  | cond => by_cases h : X a = 0 <;> simp [evalZ, trapO, goesO, regO, memO, valO, wrO, storeK, h]
  | out => simp [evalZ, trapO, goesO, regO, memO, valO, wrO, storeK]
  | outr => simp [evalZ, trapO, goesO, regO, memO, valO, wrO, storeK]
  | quo =>
    obtain ⟨g1, _⟩ := hg
    simp only at g1
    cases h : divZ (X a) (X b.toNat) true <;> simp [evalZ, trapO, goesO, regO, memO, valO, wrO, storeK, h, updR_id, show ¬ d = 0 by omega]
  | rem =>
    obtain ⟨g1, _⟩ := hg
    simp only at g1
    cases h : divZ (X a) (X b.toNat) true <;> simp [evalZ, trapO, goesO, regO, memO, valO, wrO, storeK, h, updR_id, show ¬ d = 0 by omega]
  | quou =>
    obtain ⟨g1, _⟩ := hg
    simp only at g1
    cases h : divZ (X a) (X b.toNat) false <;> simp [evalZ, trapO, goesO, regO, memO, valO, wrO, storeK, h, updR_id, show ¬ d = 0 by omega]
  | remu =>
    obtain ⟨g1, _⟩ := hg
    simp only at g1
    cases h : divZ (X a) (X b.toNat) false <;> simp [evalZ, trapO, goesO, regO, memO, valO, wrO, storeK, h, updR_id, show ¬ d = 0 by omega]
  | _ =>
    obtain ⟨g1, _⟩ := hg
    simp only at g1
    simp [evalZ, trapO, goesO, regO, memO, valO, wrO, storeK, show ¬ d = 0 by omega]
def RanEq : Ran → Ran → Prop
  | .trap _, .trap _ => True
  | .leave p X ws, .leave q Y us => p = q ∧ ws = us ∧ ∀ k, k < 34 → X k = Y k
  | .fell, .fell => True
  | _, _ => False
theorem RanEq.refl : ∀ x : Ran, RanEq x x
  | .trap _ => trivial
  | .leave _ _ _ => ⟨rfl, rfl, fun _ _ => rfl⟩
  | .fell => trivial
theorem RanEq.of_eq {x y : Ran} (h : x = y) : RanEq x y := h ▸ RanEq.refl x
theorem RanEq.symm : ∀ {x y : Ran}, RanEq x y → RanEq y x
  | .trap _, .trap _, _ => trivial
  | .leave _ _ _, .leave _ _ _, ⟨a, b, c⟩ => ⟨a.symm, b.symm, fun k hk => (c k hk).symm⟩
  | .fell, .fell, _ => trivial
  | .trap _, .leave _ _ _, h => h.elim
  | .trap _, .fell, h => h.elim
  | .leave _ _ _, .trap _, h => h.elim
  | .leave _ _ _, .fell, h => h.elim
  | .fell, .trap _, h => h.elim
  | .fell, .leave _ _ _, h => h.elim
theorem RanEq.trans : ∀ {x y z : Ran}, RanEq x y → RanEq y z → RanEq x z
  | .trap _, .trap _, .trap _, _, _ => trivial
  | .leave _ _ _, .leave _ _ _, .leave _ _ _, ⟨a, b, c⟩, ⟨d, e, f⟩ => ⟨a.trans d, b.trans e, fun k hk => (c k hk).trans (f k hk)⟩
  | .fell, .fell, .fell, _, _ => trivial
  | .trap _, .leave _ _ _, _, h, _ => h.elim
  | .trap _, .fell, _, h, _ => h.elim
  | .leave _ _ _, .trap _, _, h, _ => h.elim
  | .leave _ _ _, .fell, _, h, _ => h.elim
  | .fell, .trap _, _, h, _ => h.elim
  | .fell, .leave _ _ _, _, h, _ => h.elim
  | .trap _, .trap _, .leave _ _ _, _, h => h.elim
  | .trap _, .trap _, .fell, _, h => h.elim
  | .leave _ _ _, .leave _ _ _, .trap _, _, h => h.elim
  | .leave _ _ _, .leave _ _ _, .fell, _, h => h.elim
  | .fell, .fell, .trap _, _, h => h.elim
  | .fell, .fell, .leave _ _ _, _, h => h.elim
/-! What an op does hangs on what it reads. -/
theorem trapO_eq (wt : Nat → Bool) (o : OpN) {X Y : Regs} (h : ∀ r ∈ rdO o, X r = Y r) : trapO wt o X = trapO wt o Y := by
  obtain ⟨k, d, a, b, imm, n⟩ := o
  cases k <;> simp only [rdO, List.mem_cons, List.not_mem_nil, or_false, forall_eq_or_imp, forall_eq] at h <;> simp only [trapO] <;> simp [h]
theorem valO_eq (o : OpN) {X Y : Regs} {ws us : List Int} (h : ∀ r ∈ rdO o, X r = Y r) (hw : o.kind = .load → ws = us) (hl : wrO o ≠ 0) : valO o X ws = valO o Y us := by
  obtain ⟨k, d, a, b, imm, n⟩ := o
  cases k <;> simp only [rdO, List.mem_cons, List.not_mem_nil, or_false, forall_eq_or_imp, forall_eq] at h <;> simp only [valO] <;> first
    | (simp [h]; done)
    | (rw [h, hw rfl]; done)
    | (exact absurd rfl hl)
theorem goesO_eq (o : OpN) {X Y : Regs} (h : ∀ r ∈ rdO o, X r = Y r) : goesO o X = goesO o Y := by
  obtain ⟨k, d, a, b, imm, n⟩ := o
  cases k <;> simp only [rdO, List.mem_cons, List.not_mem_nil, or_false, forall_eq_or_imp, forall_eq] at h <;> simp only [goesO] <;> simp [h]
theorem memO_eq (o : OpN) {X Y : Regs} (ws : List Int) (h : ∀ r ∈ rdO o, X r = Y r) : memO o X ws = memO o Y ws := by
  obtain ⟨k, d, a, b, imm, n⟩ := o
  cases k <;> simp only [rdO, List.mem_cons, List.not_mem_nil, or_false, forall_eq_or_imp, forall_eq] at h <;> simp [memO, storeK, h]
theorem goesO_none {o : OpN} (h : leavesO o.kind = false) (X : Regs) : goesO o X = none := by
  obtain ⟨k, d, a, b, imm, n⟩ := o
  cases k <;> first | rfl | (exact absurd (show true = false from h) (by decide))
theorem leaves_still {o : OpN} (h : leavesO o.kind = true) : wrO o = 0 ∧ storeK o.kind = false ∧ ∀ wt X, trapO wt o X = false := by
  obtain ⟨k, d, a, b, imm, n⟩ := o
  cases k <;> first | (exact ⟨rfl, rfl, fun _ _ => rfl⟩) | (exact absurd (show false = true from h) (by decide))
/-! Known registers. -/
abbrev Facts := Nat → Option Int
def ofF (f : Facts) (n : Nat) : Option Int := if n = 0 then some 0 else f n
def foldableF (f : Facts) (o : OpN) : Bool := isSumK o.kind && (ofF f o.a).isSome && (ofF f o.b.toNat).isSome
def learnF (f : Facts) (o : OpN) : Facts := if wrO o = 0 then f else fun k => if k = wrO o then (if o.kind = .set then some o.imm else none) else f k
def foldF (f : Facts) (o : OpN) : OpN :=
  if foldableF f o = true then ⟨.set, o.d, 0, 0, sumZ o.kind ((ofF f o.a).getD 0) ((ofF f o.b.toNat).getD 0), o.at'⟩
  else if o.kind = .copy ∧ (ofF f o.a).isSome = true then ⟨.set, o.d, 0, 0, (ofF f o.a).getD 0, o.at'⟩ else o
def foldZ : Facts → List OpN → List OpN
  | _, [] => []
  | f, o :: os => foldF f o :: foldZ (learnF f (foldF f o)) os
structure SoundF (f : Facts) (X : Regs) : Prop where
  zero : X 0 = 0
  is : ∀ k v, f k = some v → X k = v
theorem SoundF.of {f : Facts} {X : Regs} (h : SoundF f X) {k : Nat} {v : Int} (e : ofF f k = some v) : X k = v := by
  unfold ofF at e
  by_cases hk : k = 0
  · rw [if_pos hk] at e
    cases e
    rw [hk, h.zero]
  · rw [if_neg hk] at e
    exact h.is k v e
theorem opG_wr {o : OpN} (hg : opG o) (hw : wrO o ≠ 0) : wrO o = o.d ∧ 1 ≤ o.d ∧ o.d < 64 := by
  obtain ⟨k, d, a, b, imm, n⟩ := o
  cases k <;> first
    | (exact absurd rfl hw)
    | (obtain ⟨g1, g2, _⟩ := hg; exact ⟨rfl, g1, g2⟩)
theorem SoundF.learn {f : Facts} {X : Regs} (h : SoundF f X) (o : OpN) (ws : List Int) (hg : opG o) : SoundF (learnF f o) (regO o (valO o X ws) X) := by
  unfold learnF regO
  by_cases hw : wrO o = 0
  · rw [if_pos hw, if_pos hw]
    exact h
  · rw [if_neg hw, if_neg hw]
    have hd := opG_wr hg hw
    refine ⟨by rw [updR_other _ _ (by omega)]; exact h.zero, fun k v e => ?_⟩
    by_cases hk : k = wrO o
    · rw [if_pos hk] at e
      rw [hk, updR_same]
      by_cases hs : o.kind = .set
      · rw [if_pos hs] at e
        cases e
        unfold valO
        rw [hs]
      · rw [if_neg hs] at e
        cases e
    · rw [if_neg hk] at e
      rw [updR_other _ _ hk]
      exact h.is k v e
theorem sumK_G {o : OpN} (hs : isSumK o.kind = true) (hg : opG o) : 1 ≤ o.d ∧ o.d < 64 ∧ o.a < 64 ∧ 0 ≤ o.b ∧ o.b < 64 ∧ o.imm = 0 := by
  obtain ⟨k, d, a, b, imm, n⟩ := o
  cases k <;> first | (exact absurd (show false = true from hs) (by decide)) | exact hg
theorem sumK_val {o : OpN} (hs : isSumK o.kind = true) (X : Regs) (ws : List Int) : valO o X ws = sumZ o.kind (X o.a) (X o.b.toNat) ∧ wrO o = o.d ∧ storeK o.kind = false ∧ leavesO o.kind = false ∧ outK o.kind = false ∧ ∀ wt, trapO wt o X = false := by
  obtain ⟨k, d, a, b, imm, n⟩ := o
  cases k <;> first | (exact absurd (show false = true from hs) (by decide)) | (exact ⟨rfl, rfl, rfl, rfl, rfl, fun _ => rfl⟩)
theorem foldF_is (f : Facts) (o : OpN) : foldF f o = o ∨ (isSumK o.kind = true ∧ ∃ u v, ofF f o.a = some u ∧ ofF f o.b.toNat = some v ∧ foldF f o = ⟨.set, o.d, 0, 0, sumZ o.kind u v, o.at'⟩) ∨ (o.kind = .copy ∧ ∃ u, ofF f o.a = some u ∧ foldF f o = ⟨.set, o.d, 0, 0, u, o.at'⟩) := by
  unfold foldF
  by_cases h : foldableF f o = true
  · rw [if_pos h]
    unfold foldableF at h
    simp only [Bool.and_eq_true] at h
    obtain ⟨⟨h1, h2⟩, h3⟩ := h
    obtain ⟨u, hu⟩ := Option.isSome_iff_exists.1 h2
    obtain ⟨v, hv⟩ := Option.isSome_iff_exists.1 h3
    exact .inr (.inl ⟨h1, u, v, hu, hv, by rw [hu, hv]; rfl⟩)
  · rw [if_neg h]
    by_cases h2 : o.kind = .copy ∧ (ofF f o.a).isSome = true
    · rw [if_pos h2]
      obtain ⟨u, hu⟩ := Option.isSome_iff_exists.1 h2.2
      exact .inr (.inr ⟨h2.1, u, hu, by rw [hu]; rfl⟩)
    · rw [if_neg h2]
      exact .inl rfl
theorem foldF_does {f : Facts} {X : Regs} (h : SoundF f X) {o : OpN} (hg : opG o) (wt : Nat → Bool) (ws : List Int) :
    opG (foldF f o) ∧ (foldF f o).at' = o.at' ∧ trapO wt (foldF f o) X = trapO wt o X ∧ goesO (foldF f o) X = goesO o X ∧ regO (foldF f o) (valO (foldF f o) X ws) X = regO o (valO o X ws) X ∧ memO (foldF f o) X ws = memO o X ws := by
  rcases foldF_is f o with e | ⟨hs, u, v, hu, hv, e⟩ | ⟨hs, u, hu, e⟩
  · rw [e]
    exact ⟨hg, rfl, rfl, rfl, rfl, rfl⟩
  · obtain ⟨d1, d2, _⟩ := sumK_G hs hg
    obtain ⟨v1, v2, v3, v4, v5, v6⟩ := sumK_val hs X ws
    rw [e]
    refine ⟨⟨d1, d2, rfl, rfl⟩, rfl, (v6 wt).symm, (goesO_none v4 X).symm, ?_, ?_⟩
    · unfold regO
      rw [v1, v2, h.of hu, h.of hv]
      rfl
    · unfold memO
      rw [v3]
      rfl
  · obtain ⟨k, d, a, b, imm, n⟩ := o
    simp only at hs
    subst hs
    obtain ⟨d1, d2, _⟩ := hg
    rw [e]
    have hv : X a = u := h.of hu
    refine ⟨⟨d1, d2, rfl, rfl⟩, rfl, rfl, rfl, ?_, rfl⟩
    subst hv
    rfl
theorem foldZ_ends (wt : Nat → Bool) : ∀ (ops : List OpN) (f : Facts) (X : Regs) (ws : List Int), SoundF f X → (∀ o ∈ ops, opG o) → evalZ wt (foldZ f ops) X ws = evalZ wt ops X ws
  | [], _, _, _, _, _ => rfl
  | o :: os, f, X, ws, h, hg => by
    have ho := hg o (List.mem_cons_self ..)
    obtain ⟨g1, g2, g3, g4, g5, g6⟩ := foldF_does h ho wt ws
    have hl := h.learn (foldF f o) ws g1
    rw [g5] at hl
    rw [foldZ, evalZ_cons wt _ _ _ _ g1, evalZ_cons wt _ _ _ _ ho, g2, g3, g4, g5, g6, foldZ_ends wt os _ _ _ hl (fun x hx => hg x (List.mem_cons_of_mem _ hx))]
structure SameO (o x : OpN) : Prop where
  at' : x.at' = o.at'
  g : opG x
  imm : Reg32 x.imm
  out : outK x.kind = outK o.kind
  st : storeK x.kind = storeK o.kind
def FactsOK (f : Facts) : Prop := ∀ k v, f k = some v → Reg32 v
theorem FactsOK.of {f : Facts} (h : FactsOK f) {k : Nat} {v : Int} (e : ofF f k = some v) : Reg32 v := by
  unfold ofF at e
  split at e
  · cases e; exact r32_0
  · exact h k v e
theorem foldF_same {f : Facts} (h : FactsOK f) {o : OpN} (hg : opG o) (hm : Reg32 o.imm) : SameO o (foldF f o) := by
  rcases foldF_is f o with e | ⟨hs, u, v, hu, hv, e⟩ | ⟨hs, u, hu, e⟩
  · rw [e]
    exact ⟨rfl, hg, hm, rfl, rfl⟩
  · obtain ⟨d1, d2, _⟩ := sumK_G hs hg
    obtain ⟨_, _, v3, _, v5, _⟩ := sumK_val hs (fun _ => 0) []
    rw [e]
    exact ⟨rfl, ⟨d1, d2, rfl, rfl⟩, sumZ_ok _ (h.of hu) (h.of hv), v5.symm, v3.symm⟩
  · obtain ⟨k, d, a, b, imm, n⟩ := o
    simp only at hs
    subst hs
    obtain ⟨d1, d2, _⟩ := hg
    rw [e]
    exact ⟨rfl, ⟨d1, d2, rfl, rfl⟩, h.of hu, rfl, rfl⟩
theorem FactsOK.learn {f : Facts} (h : FactsOK f) {o : OpN} (hm : Reg32 o.imm) : FactsOK (learnF f o) := by
  intro k v e
  unfold learnF at e
  split at e
  · exact h k v e
  · simp only at e
    split at e
    · split at e
      · cases e; exact hm
      · cases e
    · exact h k v e
inductive SameL : List OpN → List OpN → Prop
  | nil : SameL [] []
  | cons {o x : OpN} {os xs : List OpN} : SameO o x → SameL os xs → SameL (o :: os) (x :: xs)
theorem foldZ_same : ∀ (ops : List OpN) (f : Facts), FactsOK f → (∀ o ∈ ops, opG o ∧ Reg32 o.imm) → SameL ops (foldZ f ops)
  | [], _, _, _ => .nil
  | o :: os, f, h, hg => by
    have ho := hg o (List.mem_cons_self ..)
    have hs := foldF_same h ho.1 ho.2
    exact .cons hs (foldZ_same os _ (h.learn hs.imm) (fun x hx => hg x (List.mem_cons_of_mem _ hx)))
/-! Dead ops. -/
def deadKind (k : OpK) : Bool := match k with | .set => true | .copy => true | k => isSumK k || divO k
def deadL (d : Nat) : List OpN → Bool → Bool
  | [], _ => decide (33 < d)
  | x :: xs, seen => if d ∈ rdO x then false else if wrO x = d then (decide (33 < d) || !seen) else deadL d xs (seen || decide (x.kind = .cond))
def deadO (o : OpN) (rest : List OpN) : Bool := deadKind o.kind && deadL o.d rest false
def ButR (d : Nat) (X Y : Regs) : Prop := ∀ k, k ≠ d → X k = Y k
theorem ButR.upd {d : Nat} {X Y : Regs} (h : ButR d X Y) (e : Nat) (v : Int) : ButR d (updR X e v) (updR Y e v) := by
  intro k hk
  unfold updR
  split
  · rfl
  · exact h k hk
theorem ButR.reg {d : Nat} {X Y : Regs} (h : ButR d X Y) (o : OpN) (v : Int) : ButR d (regO o v X) (regO o v Y) := by
  unfold regO
  split
  · exact h
  · exact h.upd _ _
def OutLast : List OpN → Prop
  | [] => True
  | x :: xs => (outK x.kind = true → xs = []) ∧ OutLast xs
theorem high_ends (wt : Nat → Bool) (d : Nat) (hd : 33 < d) : ∀ (xs : List OpN) (seen : Bool) (X Y : Regs) (ws : List Int), deadL d xs seen = true → ButR d X Y → (∀ o ∈ xs, opG o) → RanEq (evalZ wt xs X ws) (evalZ wt xs Y ws)
  | [], _, _, _, _, _, _, _ => trivial
  | x :: xs, seen, X, Y, ws, h, hb, hg => by
    have hx := hg x (List.mem_cons_self ..)
    rw [evalZ_cons wt _ _ _ _ hx, evalZ_cons wt _ _ _ _ hx]
    unfold deadL at h
    by_cases h1 : d ∈ rdO x
    · rw [if_pos h1] at h; cases h
    · rw [if_neg h1] at h
      have hr : ∀ r ∈ rdO x, X r = Y r := fun r hr => hb r (fun e => h1 (e ▸ hr))
      rw [trapO_eq wt x hr, goesO_eq x hr]
      by_cases ht : trapO wt x Y = true
      · rw [if_pos ht, if_pos ht]; trivial
      · rw [if_neg ht, if_neg ht]
        cases hgo : goesO x Y with
        | some pc => exact ⟨rfl, rfl, fun k hk => hb k (by omega)⟩
        | none =>
          simp only
          rw [memO_eq x ws hr]
          by_cases h2 : wrO x = d
          · have hv : valO x X ws = valO x Y ws := valO_eq x hr (fun _ => rfl) (by omega)
            have he : regO x (valO x X ws) X = regO x (valO x Y ws) Y := by
              unfold regO
              rw [if_neg (by omega), if_neg (by omega), hv]
              funext k
              unfold updR
              split
              · rfl
              · rename_i hk
                exact hb k (by omega)
            rw [he]
            exact RanEq.refl _
          · rw [if_neg h2] at h
            by_cases hw : wrO x = 0
            · have : ∀ v Z, regO x v Z = Z := fun v Z => by unfold regO; rw [if_pos hw]
              rw [this, this]
              exact high_ends wt d hd xs _ X Y _ h hb (fun o ho => hg o (List.mem_cons_of_mem _ ho))
            · have hv : valO x X ws = valO x Y ws := valO_eq x hr (fun _ => rfl) hw
              rw [hv]
              exact high_ends wt d hd xs _ _ _ _ h (hb.reg x _) (fun o ho => hg o (List.mem_cons_of_mem _ ho))
theorem low_seen (d : Nat) (hd : d ≤ 33) : ∀ (xs : List OpN), deadL d xs true = false
  | [] => by unfold deadL; exact decide_eq_false (by omega)
  | x :: xs => by
    unfold deadL
    split
    · rfl
    · split
      · rw [decide_eq_false (by omega)]; rfl
      · rw [Bool.true_or]; exact low_seen d hd xs
theorem out_nil {d : Nat} {x : OpN} {xs : List OpN} (hd : d ≤ 33) (hx : outK x.kind = true) (hl : OutLast (x :: xs)) (h2 : ¬ wrO x = d) (h1 : ¬ d ∈ rdO x) {s : Bool} (h : deadL d (x :: xs) s = true) : False := by
  rw [hl.1 hx] at h
  unfold deadL at h
  rw [if_neg h1, if_neg h2] at h
  unfold deadL at h
  rw [decide_eq_false (by omega)] at h
  cases h
theorem goes_kind {x : OpN} {X : Regs} {pc : Int} (h : goesO x X = some pc) : x.kind = .cond ∨ outK x.kind = true := by
  obtain ⟨k, d, a, b, imm, n⟩ := x
  cases k <;> first | (cases h; done) | exact .inl rfl | exact .inr rfl
theorem low_ends (wt : Nat → Bool) (d : Nat) (h0 : 1 ≤ d) (hd : d ≤ 33) : ∀ (xs : List OpN) (X Y : Regs) (ws : List Int), deadL d xs false = true → ButR d X Y → (∀ o ∈ xs, opG o) → OutLast xs → RanEq (evalZ wt xs X ws) (evalZ wt xs Y ws)
  | [], _, _, _, _, _, _, _ => trivial
  | x :: xs, X, Y, ws, h, hb, hg, hl => by
    have hx := hg x (List.mem_cons_self ..)
    have h' := h
    rw [evalZ_cons wt _ _ _ _ hx, evalZ_cons wt _ _ _ _ hx]
    unfold deadL at h
    by_cases h1 : d ∈ rdO x
    · rw [if_pos h1] at h; cases h
    · rw [if_neg h1] at h
      have hr : ∀ r ∈ rdO x, X r = Y r := fun r hr => hb r (fun e => h1 (e ▸ hr))
      rw [trapO_eq wt x hr, goesO_eq x hr]
      by_cases ht : trapO wt x Y = true
      · rw [if_pos ht, if_pos ht]; trivial
      · rw [if_neg ht, if_neg ht]
        cases hgo : goesO x Y with
        | some pc =>
          exfalso
          have hw : wrO x = 0 := by
            have hlk : leavesO x.kind = true := by
              rcases goes_kind hgo with e | e
              · rw [e]; rfl
              · revert e; cases x.kind <;> decide
            exact (leaves_still hlk).1
          rcases goes_kind hgo with e | e
          · rw [if_neg (by omega), e] at h
            rw [show (false || decide (OpK.cond = OpK.cond)) = true from rfl, low_seen d hd] at h
            cases h
          · exact out_nil hd e hl (by omega) h1 h'
        | none =>
          simp only
          rw [memO_eq x ws hr]
          by_cases h2 : wrO x = d
          · have hv : valO x X ws = valO x Y ws := valO_eq x hr (fun _ => rfl) (by omega)
            have he : regO x (valO x X ws) X = regO x (valO x Y ws) Y := by
              unfold regO
              rw [if_neg (by omega), if_neg (by omega), hv]
              funext k
              unfold updR
              split
              · rfl
              · rename_i hk
                exact hb k (by omega)
            rw [he]
            exact RanEq.refl _
          · rw [if_neg h2] at h
            have hc : x.kind ≠ .cond := by
              intro e
              rw [e, show (false || decide (OpK.cond = OpK.cond)) = true from rfl, low_seen d hd] at h
              cases h
            rw [decide_eq_false hc, Bool.or_false] at h
            by_cases hw : wrO x = 0
            · have : ∀ v Z, regO x v Z = Z := fun v Z => by unfold regO; rw [if_pos hw]
              rw [this, this]
              exact low_ends wt d h0 hd xs X Y _ h hb (fun o ho => hg o (List.mem_cons_of_mem _ ho)) hl.2
            · have hv : valO x X ws = valO x Y ws := valO_eq x hr (fun _ => rfl) hw
              rw [hv]
              exact low_ends wt d h0 hd xs _ _ _ h (hb.reg x _) (fun o ho => hg o (List.mem_cons_of_mem _ ho)) hl.2
theorem deadKind_does {o : OpN} (hk : deadKind o.kind = true) (X : Regs) (ws : List Int) : wrO o = o.d ∧ storeK o.kind = false ∧ leavesO o.kind = false ∧ outK o.kind = false ∧ ∀ wt, trapO wt o X = false := by
  obtain ⟨k, d, a, b, imm, n⟩ := o
  cases k <;> first | (exact absurd (show false = true from hk) (by decide)) | (exact ⟨rfl, rfl, rfl, rfl, fun _ => rfl⟩)
theorem dead_ends (wt : Nat → Bool) {o : OpN} {rest : List OpN} (h : deadO o rest = true) (hg : opG o) (hgs : ∀ x ∈ rest, opG x) (hl : OutLast rest) (X : Regs) (ws : List Int) : RanEq (evalZ wt (o :: rest) X ws) (evalZ wt rest X ws) := by
  unfold deadO at h
  rw [Bool.and_eq_true] at h
  obtain ⟨hk, hd⟩ := h
  obtain ⟨w1, w2, w3, w4, w5⟩ := deadKind_does hk X ws
  rw [evalZ_cons wt _ _ _ _ hg, w5 wt, goesO_none w3]
  simp only [Bool.false_eq_true, if_false]
  have hm : memO o X ws = ws := by unfold memO; rw [w2]; rfl
  rw [hm]
  by_cases h0 : wrO o = 0
  · have : regO o (valO o X ws) X = X := by unfold regO; rw [if_pos h0]
    rw [this]
    exact RanEq.refl _
  · obtain ⟨_, d1, d2⟩ := opG_wr hg h0
    have hb : ButR o.d (regO o (valO o X ws) X) X := by
      intro k hk
      unfold regO
      rw [if_neg h0, w1, updR_other _ _ hk]
    by_cases h33 : 33 < o.d
    · exact high_ends wt o.d h33 rest false _ _ ws hd hb hgs
    · exact low_ends wt o.d d1 (by omega) rest _ _ ws hd hb hgs hl
theorem ends_cons (wt : Nat → Bool) (o : OpN) {xs ys : List OpN} (hg : opG o) (h : ∀ X ws, RanEq (evalZ wt xs X ws) (evalZ wt ys X ws)) (X : Regs) (ws : List Int) : RanEq (evalZ wt (o :: xs) X ws) (evalZ wt (o :: ys) X ws) := by
  rw [evalZ_cons wt _ _ _ _ hg, evalZ_cons wt _ _ _ _ hg]
  split
  · trivial
  · split
    · exact RanEq.refl _
    · exact h _ _
def sweep1 : List OpN → Option (List OpN)
  | [] => none
  | o :: os => if deadO o os = true then some os else (sweep1 os).map (o :: ·)
def sweepN : Nat → List OpN → List OpN
  | 0, l => l
  | n + 1, l => match sweep1 l with | none => l | some l' => sweepN n l'
def sweepZ (l : List OpN) : List OpN := sweepN l.length l
theorem sweep1_len : ∀ (l l' : List OpN), sweep1 l = some l' → l'.length + 1 = l.length
  | [], _, h => by cases h
  | o :: os, l', h => by
    unfold sweep1 at h
    split at h
    · cases h; rfl
    · obtain ⟨r, hr, rfl⟩ := Option.map_eq_some_iff.1 h
      have := sweep1_len os r hr
      simp only [List.length_cons]
      omega
theorem sweep1_sub : ∀ (l l' : List OpN), sweep1 l = some l' → l'.Sublist l
  | [], _, h => by cases h
  | o :: os, l', h => by
    unfold sweep1 at h
    split at h
    · cases h; exact List.sublist_cons_self _ _
    · obtain ⟨r, hr, rfl⟩ := Option.map_eq_some_iff.1 h
      exact (sweep1_sub os r hr).cons_cons o
theorem sweep1_ends (wt : Nat → Bool) : ∀ (l l' : List OpN), sweep1 l = some l' → (∀ o ∈ l, opG o) → OutLast l → ∀ X ws, RanEq (evalZ wt l X ws) (evalZ wt l' X ws)
  | [], _, h, _, _ => by cases h
  | o :: os, l', h, hg, hl => by
    unfold sweep1 at h
    have ho := hg o (List.mem_cons_self ..)
    have hs := fun x hx => hg x (List.mem_cons_of_mem o hx)
    split at h
    · rename_i hd
      cases h
      exact fun X ws => dead_ends wt hd ho hs hl.2 X ws
    · obtain ⟨r, hr, rfl⟩ := Option.map_eq_some_iff.1 h
      exact ends_cons wt o ho (sweep1_ends wt os r hr hs hl.2)
theorem OutLast.sub : ∀ {l l' : List OpN}, l'.Sublist l → OutLast l → OutLast l'
  | _, _, .slnil, _ => trivial
  | _, _, .cons a h, hl => OutLast.sub h hl.2
  | _, _, .cons_cons a h, hl => ⟨fun e => by
      have := hl.1 e
      subst this
      exact List.sublist_nil.1 h, OutLast.sub h hl.2⟩
theorem sweep1_last : ∀ (l l' : List OpN), sweep1 l = some l' → (∃ a last, l = a ++ [last] ∧ outK last.kind = true) → ∃ a last, l' = a ++ [last] ∧ outK last.kind = true
  | [], _, h, _ => by cases h
  | o :: os, l', h, ⟨a, last, e, ho⟩ => by
    unfold sweep1 at h
    cases a with
    | nil =>
      simp only [List.nil_append, List.cons.injEq] at e
      obtain ⟨rfl, rfl⟩ := e
      split at h
      · rename_i hd
        unfold deadO at hd
        rw [Bool.and_eq_true] at hd
        have := (deadKind_does hd.1 (fun _ => 0) []).2.2.2.1
        rw [ho] at this
        cases this
      · obtain ⟨r, hr, rfl⟩ := Option.map_eq_some_iff.1 h
        cases hr
    | cons b a =>
      simp only [List.cons_append, List.cons.injEq] at e
      obtain ⟨rfl, rfl⟩ := e
      split at h
      · cases h
        exact ⟨a, last, rfl, ho⟩
      · obtain ⟨r, hr, rfl⟩ := Option.map_eq_some_iff.1 h
        obtain ⟨c, last', rfl, h2⟩ := sweep1_last (a ++ [last]) r hr ⟨a, last, rfl, ho⟩
        exact ⟨o :: c, last', rfl, h2⟩
end Go.Proofs.YtlnefmgiiogcmaaGreatDoor
namespace Go.Proofs.YtlnefmgiiogcmaaGreatDoor
open Go.RowKit
theorem nat_step (x y : Nat) (h1 : x / 2 = y / 2) (h2 : x % 2 = y % 2) : x = y := by omega
theorem bitsN_and : ∀ (n x y : Nat), x < 2 ^ n → y < 2 ^ n → bitsN 8 n x y = x &&& y
  | 0, x, y, hx, hy => by
    have : x = 0 := by simpa using hx
    subst this
    simp [bitsN]
  | n + 1, x, y, hx, hy => by
    rw [Nat.pow_succ] at hx hy
    have ih := bitsN_and n (x / 2) (y / 2) (by omega) (by omega)
    unfold bitsN
    rw [ih]
    apply nat_step
    · rw [Nat.and_div_two]
      omega
    · have h := Nat.and_mod_two_pow (a := x) (b := y) (n := 1)
      rw [Nat.pow_one] at h
      rw [h]
      rcases Nat.mod_two_eq_zero_or_one x with e | e <;> rcases Nat.mod_two_eq_zero_or_one y with f | f <;> rw [e, f] <;> simp <;> omega
theorem bitsN_or : ∀ (n x y : Nat), x < 2 ^ n → y < 2 ^ n → bitsN 14 n x y = x ||| y
  | 0, x, y, hx, hy => by
    have h1 : x = 0 := by simpa using hx
    have h2 : y = 0 := by simpa using hy
    subst h1 h2
    simp [bitsN]
  | n + 1, x, y, hx, hy => by
    rw [Nat.pow_succ] at hx hy
    have ih := bitsN_or n (x / 2) (y / 2) (by omega) (by omega)
    unfold bitsN
    rw [ih]
    apply nat_step
    · rw [Nat.or_div_two]
      omega
    · have h := Nat.or_mod_two_pow (a := x) (b := y) (n := 1)
      rw [Nat.pow_one] at h
      rw [h]
      rcases Nat.mod_two_eq_zero_or_one x with e | e <;> rcases Nat.mod_two_eq_zero_or_one y with f | f <;> rw [e, f] <;> simp <;> omega
theorem bitsN_xor : ∀ (n x y : Nat), x < 2 ^ n → y < 2 ^ n → bitsN 6 n x y = x ^^^ y
  | 0, x, y, hx, hy => by
    have h1 : x = 0 := by simpa using hx
    have h2 : y = 0 := by simpa using hy
    subst h1 h2
    simp [bitsN]
  | n + 1, x, y, hx, hy => by
    rw [Nat.pow_succ] at hx hy
    have ih := bitsN_xor n (x / 2) (y / 2) (by omega) (by omega)
    unfold bitsN
    rw [ih]
    apply nat_step
    · rw [Nat.xor_div_two]
      omega
    · have h := Nat.xor_mod_two_pow (a := x) (b := y) (n := 1)
      rw [Nat.pow_one] at h
      rw [h]
      rcases Nat.mod_two_eq_zero_or_one x with e | e <;> rcases Nat.mod_two_eq_zero_or_one y with f | f <;> rw [e, f] <;> simp <;> omega
theorem bitsN_nor : ∀ (n x y : Nat), bitsN 1 n x y + bitsN 14 n x y = 2 ^ n - 1
  | 0, x, y => by simp [bitsN]
  | n + 1, x, y => by
    have ih := bitsN_nor n (x / 2) (y / 2)
    have h2 : 0 < 2 ^ n := Nat.pow_pos (by decide)
    unfold bitsN
    rw [Nat.pow_succ]
    rcases Nat.mod_two_eq_zero_or_one x with e | e <;> rcases Nat.mod_two_eq_zero_or_one y with f | f <;> rw [e, f] <;> simp <;> omega
theorem reg_nat {a : Int} (h : Reg32 a) : ∃ m : Nat, a = (m : Int) ∧ m < 4294967296 := ⟨a.toNat, by have := h.1; omega, by have := h.1; have := h.2; omega⟩
theorem and_val {a b : Int} (ha : Reg32 a) (hb : Reg32 b) : bits .and .u32 a b = bitsZ 8 a b := by
  obtain ⟨m, rfl, hm⟩ := reg_nat ha
  obtain ⟨n, rfl, hn⟩ := reg_nat hb
  rw [u32_and_nat m n hm hn]
  unfold bitsZ
  rw [Int.toNat_natCast, Int.toNat_natCast, bitsN_and 32 m n hm hn]
theorem or_val {a b : Int} (ha : Reg32 a) (hb : Reg32 b) : bits .or .u32 a b = bitsZ 14 a b := by
  obtain ⟨m, rfl, hm⟩ := reg_nat ha
  obtain ⟨n, rfl, hn⟩ := reg_nat hb
  rw [u32_or_nat m n hm hn]
  unfold bitsZ
  rw [Int.toNat_natCast, Int.toNat_natCast, bitsN_or 32 m n hm hn]
theorem xor_val {a b : Int} (ha : Reg32 a) (hb : Reg32 b) : bits .xor .u32 a b = bitsZ 6 a b := by
  obtain ⟨m, rfl, hm⟩ := reg_nat ha
  obtain ⟨n, rfl, hn⟩ := reg_nat hb
  rw [u32_xor_nat m n hm hn]
  unfold bitsZ
  rw [Int.toNat_natCast, Int.toNat_natCast, bitsN_xor 32 m n hm hn]
theorem nor_val (a b : Int) : 4294967295 - bitsZ 14 a b = bitsZ 1 a b := by
  have := bitsN_nor 32 a.toNat b.toNat
  unfold bitsZ
  omega
theorem bitsN_full : ∀ (n m : Nat), m < 2 ^ n → bitsN 6 n (2 ^ n - 1) m = 2 ^ n - 1 - m
  | 0, m, h => by simp [bitsN]
  | n + 1, m, h => by
    have h2 : 0 < 2 ^ n := Nat.pow_pos (by decide)
    rw [Nat.pow_succ] at h ⊢
    have e1 : (2 ^ n * 2 - 1) % 2 = 1 := by omega
    have e2 : (2 ^ n * 2 - 1) / 2 = 2 ^ n - 1 := by omega
    unfold bitsN
    rw [e1, e2, bitsN_full n (m / 2) (by omega)]
    rcases Nat.mod_two_eq_zero_or_one m with f | f <;> rw [f] <;> simp <;> omega
theorem not_val {q : Int} (h : Reg32 q) : bits .xor .u32 IntKind.u32.max q = 4294967295 - q := by
  obtain ⟨m, rfl, hm⟩ := reg_nat h
  have e : IntKind.u32.max = ((4294967295 : Nat) : Int) := by decide
  rw [e, u32_xor_nat 4294967295 m (by decide) hm, ← bitsN_xor 32 4294967295 m (by decide) hm]
  have := bitsN_full 32 m hm
  rw [show (2 : Nat) ^ 32 - 1 = 4294967295 from rfl] at this
  rw [this]
  omega
theorem irSums_slt (a b : Int) (x : Bool) (hL : Hid (∀ wx, Calls Tryz.prog 104 #[.int .u32 a, .int .u32 b, .bool true] wx fun e w' => e = .returned (.bool x) ∧ wx = w')) (w : World) : Calls Tryz.prog 79 #[.string ⟨#[115, 108, 116]⟩, .int .u32 a, .int .u32 b] w fun e w' => e = .returned (.int .u32 (bitZ x)) ∧ w = w' := by
  cases x
  all_goals
    go_enter Tryz.func79, Tryz.ntmps79
    go_wp2_with (go_at_call 104; (with_reducible refine (hL.out _).mono ?_); rintro e w1 ⟨rfl, rfl⟩)
    go_ret
    exact ⟨rfl, rfl⟩
theorem irSums_sltu (a b : Int) (x : Bool) (hL : Hid (∀ wx, Calls Tryz.prog 104 #[.int .u32 a, .int .u32 b, .bool false] wx fun e w' => e = .returned (.bool x) ∧ wx = w')) (w : World) : Calls Tryz.prog 79 #[.string ⟨#[115, 108, 116, 117]⟩, .int .u32 a, .int .u32 b] w fun e w' => e = .returned (.int .u32 (bitZ x)) ∧ w = w' := by
  cases x
  all_goals
    go_enter Tryz.func79, Tryz.ntmps79
    go_wp2_with (go_at_call 104; (with_reducible refine (hL.out _).mono ?_); rintro e w1 ⟨rfl, rfl⟩)
    go_ret
    exact ⟨rfl, rfl⟩
theorem irSums_nor (a b q : Int) (w : World) (a0 : 0 ≤ a) (a1 : a < 4294967296) (b0 : 0 ≤ b) (b1 : b < 4294967296) (e2 : bits .or .u32 a b = q) (r0 : 0 ≤ q) (r1 : q < 4294967296) : Calls Tryz.prog 79 #[.string ⟨#[110, 111, 114]⟩, .int .u32 a, .int .u32 b] w fun e w' => e = .returned (.int .u32 (4294967295 - q)) ∧ w = w' := by
  have H := Lib.hid (not_val ⟨r0, r1⟩)
  go_enter Tryz.func79, Tryz.ntmps79
  go_wp2
  go_ret
  exact ⟨by rw [← H.out]; rfl, rfl⟩
set_option maxHeartbeats 4000000 in
set_option maxRecDepth 100000 in
theorem irSums_any (k : OpK) (hk : isSumK k = true) (a b : Int) (ha : Reg32 a) (hb : Reg32 b) (w : World) : Calls Tryz.prog 79 #[.string k.lit, .int .u32 a, .int .u32 b] w fun e w' => e = .returned (.int .u32 (sumZ k a b)) ∧ w = w' := by
  by_cases h1 : k = .slt
  · subst h1
    exact irSums_slt a b _ (Lib.hid (fun wx => wordLess a b true ha hb wx)) w
  · by_cases h2 : k = .sltu
    · subst h2
      exact irSums_sltu a b _ (Lib.hid (fun wx => wordLess a b false ha hb wx)) w
    · by_cases h3 : k = .nor
      · subst h3
        have hr := bitsZ_ok 14 a b
        have := irSums_nor a b _ w ha.1 ha.2 hb.1 hb.2 (or_val ha hb) hr.1 hr.2
        rw [nor_val] at this
        exact this
      · have HS := Lib.hid (fun wx => wordShl a b ha hb wx)
        have HR := Lib.hid (fun wx => wordShr a b ha hb wx)
        have HA := Lib.hid (fun wx => wordSar a b ha hb wx)
        have HMU := Lib.hid (fun wx s => wordMul a b s ha hb wx)
        have e1 := and_val ha hb
        have e2 := or_val ha hb
        have e3 := xor_val ha hb
        obtain ⟨a0, a1⟩ := ha
        obtain ⟨b0, b1⟩ := hb
        cases k <;> first | (exact absurd (show false = true from hk) (by decide)) | (exact absurd rfl h1) | (exact absurd rfl h2) | (exact absurd rfl h3) | (
          clear hk h1 h2 h3
          simp only [OpK.lit, sumZ]
          go_enter Tryz.func79, Tryz.ntmps79
          go_wp2_with (first | (go_at_call 102; (first | (with_reducible refine (HS.out _).mono ?_) | (with_reducible refine (HR.out _).mono ?_) | (with_reducible refine (HA.out _).mono ?_)); rintro e w1 ⟨rfl, rfl⟩) | (go_at_call 103; (with_reducible refine (HMU.out _ _).mono ?_); rintro e w1 ⟨rfl, rfl⟩))
          go_ret
          exact ⟨rfl, rfl⟩)
def valK (k : OpK) (a b d : Int) : Int := match k with
  | .quo => match divZ a b true with | some r => r.1 | none => d
  | .rem => match divZ a b true with | some r => r.2 | none => d
  | .quou => match divZ a b false with | some r => r.1 | none => d
  | .remu => match divZ a b false with | some r => r.2 | none => d
  | k => sumZ k a b
theorem irValue_sum (k : OpK) (hk : isSumK k = true) (a b d : Int) (ha : Reg32 a) (hb : Reg32 b) (w : World) : Calls Tryz.prog 48 #[.string k.lit, .int .u32 a, .int .u32 b, .int .u32 d] w fun e w' => e = .returned (.int .u32 (valK k a b d)) ∧ w = w' := by
  have HS := Lib.hid (irSums_any k hk a b ha hb)
  have HD := Lib.hid (irDiv_any k)
  have hd : divKB k = false := by cases k <;> first | rfl | (exact absurd (show false = true from hk) (by decide))
  have hv : valK k a b d = sumZ k a b := by cases k <;> first | rfl | (exact absurd (show false = true from hk) (by decide))
  rw [hd] at HD
  rw [hv]
  clear hd hv hk
  generalize k.lit = kl at *
  generalize sumZ k a b = z at *
  go_enter Tryz.func48, Tryz.ntmps48
  go_wp2_with (first | (go_at_call 78; (with_reducible refine (HD.out _).mono ?_); rintro e w1 ⟨rfl, rfl⟩) | (go_at_call 79; (with_reducible refine (HS.out _).mono ?_); rintro e w1 ⟨rfl, rfl⟩))
  go_ret
  exact ⟨rfl, rfl⟩
set_option maxHeartbeats 4000000 in
theorem irValue_div (k : OpK) (hk : divO k = true) (a b d : Int) (ha : Reg32 a) (hb : Reg32 b) (w : World) : Calls Tryz.prog 48 #[.string k.lit, .int .u32 a, .int .u32 b, .int .u32 d] w fun e w' => e = .returned (.int .u32 (valK k a b d)) ∧ Below w.heap.size w w' := by
  have HV := Lib.hid (fun wx s => wordDiv a b s ha hb wx)
  have HD := Lib.hid (irDiv_any k)
  cases k <;> first | (exact absurd (show false = true from hk) (by decide)) | skip
  all_goals
    simp only [OpK.lit, divKB, valK] at HD ⊢
    have HV2 := Lib.hid (fun wx => HV.out wx true)
    have HV3 := Lib.hid (fun wx => HV.out wx false)
    clear HV hk
    generalize divZ a b true = x at *
    generalize divZ a b false = y at *
    rcases x with _ | ⟨x1, x2⟩ <;> rcases y with _ | ⟨y1, y2⟩ <;> simp only [divV] at HV2 HV3 <;> (
      go_enter Tryz.func48, Tryz.ntmps48
      go_wp2_with (first | (go_at_call 78; (with_reducible refine (HD.out _).mono ?_); rintro e w1 ⟨rfl, rfl⟩) | (go_at_call 80; (first | (with_reducible refine (HV2.out _).mono ?_) | (with_reducible refine (HV3.out _).mono ?_)); rintro e w1 ⟨rfl, hb9⟩; replace hb9 := Lib.hid hb9))
      go_ret
      exact ⟨rfl, hb9.out⟩)
theorem irValue_any (k : OpK) (hk : isSumK k = true ∨ divO k = true) (a b d : Int) (ha : Reg32 a) (hb : Reg32 b) (w : World) : Calls Tryz.prog 48 #[.string k.lit, .int .u32 a, .int .u32 b, .int .u32 d] w fun e w' => e = .returned (.int .u32 (valK k a b d)) ∧ Below w.heap.size w w' := by
  rcases hk with hk | hk
  · exact (irValue_sum k hk a b d ha hb w).mono (fun _ _ h => ⟨h.1, h.2 ▸ Below.refl _ _⟩)
  · exact irValue_div k hk a b d ha hb w
theorem irOver_any (k : OpK) (hk : k = .overP ∨ k = .overM) (a b : Int) (ha : Reg32 a) (hb : Reg32 b) (w : World) : Calls Tryz.prog 57 #[.string k.lit, .int .u32 a, .int .u32 b] w fun e w' => e = .returned (.bool (!fitsZ (if k = .overP then wrap32 a + wrap32 b else wrap32 a - wrap32 b))) ∧ w = w' := by
  have HA := Lib.hid (wordAdd a b ha hb)
  have HS := Lib.hid (wordSub a b ha hb)
  generalize (a + b) % 4294967296 = p at *
  generalize (a - b) % 4294967296 = q at *
  rcases hk with rfl | rfl
  · rw [if_pos rfl]
    generalize (!fitsZ (wrap32 a + wrap32 b)) = x at *
    simp only [OpK.lit]
    go_enter Tryz.func57, Tryz.ntmps57
    go_wp2_with (first | (go_at_call 86; (with_reducible refine (HA.out _).mono ?_); rintro e w1 ⟨rfl, rfl⟩) | (go_at_call 87; (with_reducible refine (HS.out _).mono ?_); rintro e w1 ⟨rfl, rfl⟩))
    go_ret
    exact ⟨rfl, rfl⟩
  · rw [if_neg (by decide)]
    generalize (!fitsZ (wrap32 a + wrap32 b)) = x at *
    generalize (!fitsZ (wrap32 a - wrap32 b)) = y at *
    simp only [OpK.lit]
    go_enter Tryz.func57, Tryz.ntmps57
    go_wp2_with (first | (go_at_call 86; (with_reducible refine (HA.out _).mono ?_); rintro e w1 ⟨rfl, rfl⟩) | (go_at_call 87; (with_reducible refine (HS.out _).mono ?_); rintro e w1 ⟨rfl, rfl⟩))
    go_ret
    exact ⟨rfl, rfl⟩
end Go.Proofs.YtlnefmgiiogcmaaGreatDoor
