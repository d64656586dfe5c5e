/- The walk of law3's hosted: a closed fact. Conditions: as each theorem states. -/
import Derived.Test.YtlnefmgiiogcmaaGreatDoorQ31
import Derived.Test.YtlnefmgiiogcmaaGreatDoorQ20
import Derived.Deep.MidRow
import Derived.Deep.RegionWith
set_option linter.unusedVariables false
set_option linter.unusedSimpArgs false
namespace Go.Proofs.YtlnefmgiiogcmaaGreatDoor
open Go.RowKit
def rowsH : List (List OpN) := [[⟨.copy, 1, 2, 0, 0, 0⟩, ⟨.copy, 2, 1, 0, 0, 0⟩, ⟨.out, 0, 0, 0, 8, 0⟩]]
def sH0 : StF := ⟨fun _ => 0, 0, 0, 0, 4, false, 0, 0, 0, 0, 0, 0⟩
def sH : StF := { sH0 with r := updR (updR (fun _ => 0) 1 5) 2 6 }
abbrev EndH : Obj := .cells #[.bool false, .int .i64 0] 52
theorem planH : PlanOK 1 rowsH where
  m0 := by decide
  m1 := by decide
  len := by decide
  ne := by decide
  row := by decide
  good := by
    intro r hr o ho
    simp only [rowsH, List.mem_singleton] at hr
    subst hr
    simp only [List.mem_cons, List.not_mem_nil, or_false] at ho
    rcases ho with rfl | rfl | rfl <;> exact ⟨by decide, by simp [opG], by decide, by decide⟩
  room := by
    intro r hr c
    simp only [rowsH, List.mem_singleton] at hr
    subst hr
    by_cases h0 : c = 0
    · subst h0; decide
    · by_cases h2 : c = 2
      · subst h2; decide
      · have : countC c [⟨.copy, 1, 2, 0, 0, 0⟩, ⟨.copy, 2, 1, 0, 0, 0⟩, ⟨.out, 0, 0, 0, 8, 0⟩] = 0 := by
          simp [countC, classO, loadK, storeK, leavesO, Ne.symm h0, Ne.symm h2]
        omega
  once := by
    intro r hr
    simp only [rowsH, List.mem_singleton] at hr
    subst hr
    simp [wrO]
  out := by
    intro i hi
    have h0 : i = 0 := by have : rowsH.length = 1 := rfl; omega
    subst h0
    exact ⟨fun _ => rfl, fun _ => ⟨⟨.out, 0, 0, 0, 8, 0⟩, by simp [rowsH], rfl⟩⟩
  st := by decide
theorem rowsH_ran (ws : List Int) (wt : Nat → Bool) : ∃ X, rowsZ wt rowsH (regsP sH) ws = .leave 8 X ws ∧ X 1 = 6 ∧ X 2 = 5 := by
  refine ⟨_, rfl, ?_, ?_⟩ <;> rfl
theorem regsH : RegsOK (regsP sH) := by
  intro k
  unfold regsP sH sH0 updR
  dsimp only
  split
  · split
    · exact ⟨by decide, by decide⟩
    · split <;> exact ⟨by decide, by decide⟩
  · split
    · exact ⟨by decide, by decide⟩
    · split <;> exact ⟨by decide, by decide⟩
theorem stG_reg (s : StF) {k : Nat} (hk : k < 32) (v : Int) (j : Nat) : (if j = k then .int .u32 v else stG s j) = stG { s with r := updR s.r k v } j := by
  by_cases e : j = k
  · subst e
    rw [if_pos rfl]
    unfold stG
    rw [if_pos hk]
    dsimp only
    unfold updR
    rw [if_pos rfl]
  · rw [if_neg e]
    unfold stG
    split
    · dsimp only; rw [updR_other _ _ e]
    · rfl
theorem StB.regH {w : World} {b : Nat} {s : StF} (h : StB w b s) {k : Nat} (hk : k < 32) (v : Int) : StB (w.setCell ⟨b, k, none⟩ (.int .u32 v)) b { s with r := updR s.r k v } :=
  (Row.set h k (.int .u32 v)).eqv (fun j hj => stG_reg s hk v j)
abbrev OpsH : Obj := .cells #[.string ⟨#[99, 111, 112, 121]⟩, .int .i64 1, .int .i64 2, .int .i64 0, .int .u32 0, .int .i64 0, .string ⟨#[99, 111, 112, 121]⟩, .int .i64 2, .int .i64 1, .int .i64 0, .int .u32 0, .int .i64 0, .string ⟨#[111, 117, 116]⟩, .int .i64 0, .int .i64 0, .int .i64 0, .int .u32 8, .int .i64 0] 61
theorem rowsH_at (w : World) : PRowsAt ((w.alloc OpsH).alloc (.cells #[.slice (some ⟨w.heap.size, 0, none⟩) 3 3] 32)) 0 (.slice (some ⟨w.heap.size + 1, 0, none⟩) 1 1) rowsH := by
  have h1 := heap_alloc_new w OpsH
  have e1 : (w.alloc OpsH).heap.size = w.heap.size + 1 := by simp
  generalize w.alloc OpsH = w1 at *
  have h2 := heap_alloc_new w1 (.cells #[.slice (some ⟨w.heap.size, 0, none⟩) 3 3] 32)
  have h3 := ((Below.refl w1.heap.size w1).alloc (Nat.le_refl _) (.cells #[.slice (some ⟨w.heap.size, 0, none⟩) 3 3] 32)).block w.heap.size (by omega)
  have e2 : (w1.alloc (.cells #[.slice (some ⟨w.heap.size, 0, none⟩) 3 3] 32)).heap.size = w.heap.size + 2 := by simp [e1]
  rw [e1] at h2
  rw [h1] at h3
  generalize w1.alloc _ = w2 at *
  refine ⟨w.heap.size + 1, 1, rfl, Nat.zero_le _, by omega, fun j hj => ?_⟩
  have hj0 : j = 0 := by have : rowsH.length = 1 := rfl; omega
  subst hj0
  refine ⟨w.heap.size, 3, by simp [World.cell?, h2]; rfl, Nat.zero_le _, ⟨fun i hi => ?_, by omega⟩, Nat.le_refl 3⟩
  have hi3 : i = 0 ∨ i = 1 ∨ i = 2 := by have : rowsH[0].length = 3 := rfl; omega
  intro c v hc
  have hc6 : c < 6 := by have := (List.getElem?_eq_some_iff.1 hc).1; simpa [opC] using this
  have hcc : c = 0 ∨ c = 1 ∨ c = 2 ∨ c = 3 ∨ c = 4 ∨ c = 5 := by omega
  rcases hi3 with rfl | rfl | rfl <;> rcases hcc with rfl | rfl | rfl | rfl | rfl | rfl <;> (simp only [World.cell?, h3]; exact hc)
structure PkH (w : World) (b sb g : Nat) (ad : Nat → Addr) (mx : Int) : Prop where
  box : w.heap[b]? = some (.cells #[.int .u32 0, .int .i64 1, .slice (some ⟨g, 0, none⟩) 1 1] 45 (0, 0))
  st : StB w sb sH
  rows : PRowsAt w 0 (.slice (some ⟨g, 0, none⟩) 1 1) rowsH
  se : Sents w ad
  mx : w.cell? ⟨8, 0, none⟩ = some (.int .i64 mx)
theorem PkH.below {w w' : World} {b sb g : Nat} {ad : Nat → Addr} {mx : Int} (h : PkH w b sb g ad mx) (hb : Below w.heap.size w w') : PkH w' b sb g ad mx where
  box := (hb.block b (Array.getElem?_eq_some_iff.1 h.box).1).trans h.box
  st := h.st.of_block (hb.block sb h.st.lt)
  rows := h.rows.below hb
  se := h.se.below hb
  mx := (hb.cell (World.block_lt_of_cell? _ _ h.mx)).trans h.mx
def EndedH (w : World) (sb bb mh : Nat) (e : Ending) (w' : World) : Prop := e = .returned (.tuple #[.agg #[.bool false, .int .i64 0], .nilIface]) ∧ w'.cell? ⟨sb, 1, none⟩ = some (.int .u32 6) ∧ w'.cell? ⟨sb, 2, none⟩ = some (.int .u32 5) ∧ sb < w'.heap.size ∧ Kept (fun k => k = sb ∨ k = bb ∨ k = mh) w w'
theorem PkH.run {w : World} {b sb g r bb mw mh : Nat} {ad : Nat → Addr} {mx : Int} {ws : List Int} {wt ht : Nat → Bool} (h : PkH w b sb g ad mx) (hr : RamP w r bb mw mh ws wt ht 0) (hsep : r ≠ sb ∧ bb ≠ sb ∧ mw ≠ sb ∧ mh ≠ sb) (hdd : bb ≠ mw ∧ bb ≠ mh ∧ bb ≠ r ∧ mh ≠ r) :
    Calls Tryz.prog 12 #[.agg #[.int .u32 0, .int .i64 1, .slice (some ⟨g, 0, none⟩) 1 1], .pointer (some ⟨sb, 0, none⟩), .pointer (some ⟨r, 0, none⟩)] w fun e w' => EndedH w sb bb mh e w' := by
  refine (hrun_any (many := 1) (pc := 0) (s := sH) h.st hr h.rows planH (by decide) h.mx h.se rfl rfl rfl (by decide) (by decide) regsH hsep hdd (by decide)).mono ?_
  intro e w' hp
  obtain ⟨X, hz, h1, h2⟩ := rowsH_ran ws wt
  rw [hz] at hp
  obtain ⟨rfl, hs, _, hk⟩ := hp
  have q1 : w'.cell? ⟨sb, 1, none⟩ = some (.int .u32 (X 1)) := hs.cell (show 1 < 43 by decide)
  have q2 : w'.cell? ⟨sb, 2, none⟩ = some (.int .u32 (X 2)) := hs.cell (show 2 < 43 by decide)
  rw [h1] at q1
  rw [h2] at q2
  exact ⟨rfl, q1, q2, hs.lt, hk⟩
theorem endBlkH {w0 wx wy : World} {sb bb mh : Nat} (hsb : sb < w0.heap.size) (hbb : bb ≠ w0.heap.size) (hmh : mh ≠ w0.heap.size) (hb : Below (w0.alloc EndH).heap.size (w0.alloc EndH) wx) (hk : Kept (fun k => k = sb ∨ k = bb ∨ k = mh) wx wy) : wy.heap[w0.heap.size]? = some (Obj.cells #[.bool false, .int .i64 0] 52 (0, 0)) := by
  have h0 := heap_alloc_new w0 EndH
  have hlt : w0.heap.size < (w0.alloc EndH).heap.size := by simp
  have h1 := (hb.block _ hlt).trans h0
  exact (hk.same _ (Array.getElem?_eq_some_iff.1 h1).1 (by omega)).trans h1
theorem endFinH {w wE : World} {sb b n : Nat} {x y : Value} (q1 : wE.cell? ⟨sb, 1, none⟩ = some x) (q2 : wE.cell? ⟨sb, 2, none⟩ = some y) (hE : wE.heap[b]? = some (Obj.cells #[.bool false, .int .i64 0] 52 (0, 0))) (hne : sb ≠ b) (hnb : n ≤ b) (hb : Below n w wE) :
    ((wE.setCell ⟨b, 0, none⟩ (.bool false)).setCell ⟨b, 1, none⟩ (.int .i64 0)).cell? ⟨sb, 1, none⟩ = some x ∧ ((wE.setCell ⟨b, 0, none⟩ (.bool false)).setCell ⟨b, 1, none⟩ (.int .i64 0)).cell? ⟨sb, 2, none⟩ = some y ∧ ((wE.setCell ⟨b, 0, none⟩ (.bool false)).setCell ⟨b, 1, none⟩ (.int .i64 0)).cell? ⟨b, 0, none⟩ = some (.bool false) ∧ Below n w ((wE.setCell ⟨b, 0, none⟩ (.bool false)).setCell ⟨b, 1, none⟩ (.int .i64 0)) := by
  have h2 : ((wE.setCell ⟨b, 0, none⟩ (.bool false)).setCell ⟨b, 1, none⟩ (.int .i64 0)).heap[b]? = some (Obj.cells #[.bool false, .int .i64 0] 52 (0, 0)) := Joins.block_setCell (Joins.block_setCell hE _) _
  have h3 : ((wE.setCell ⟨b, 0, none⟩ (.bool false)).setCell ⟨b, 1, none⟩ (.int .i64 0)).heap[sb]? = wE.heap[sb]? := (setCell_other _ b 1 sb _ hne).trans (setCell_other _ b 0 sb _ hne)
  exact ⟨(World.cell?_of_block (a := ⟨sb, 1, none⟩) h3).trans q1, (World.cell?_of_block (a := ⟨sb, 2, none⟩) h3).trans q2, (two_cells h2).1, (hb.setCell hnb _).setCell hnb _⟩
theorem endAlH {w wE : World} {sb n : Nat} {x y : Value} (hlt : sb < wE.heap.size) (q1 : wE.cell? ⟨sb, 1, none⟩ = some x) (q2 : wE.cell? ⟨sb, 2, none⟩ = some y) (hnb : n ≤ wE.heap.size) (hb : Below n w wE) :
    (wE.alloc EndH).cell? ⟨sb, 1, none⟩ = some x ∧ (wE.alloc EndH).cell? ⟨sb, 2, none⟩ = some y ∧ (wE.alloc EndH).cell? ⟨wE.heap.size, 0, none⟩ = some (.bool false) ∧ Below n w (wE.alloc EndH) := by
  have h := (Below.refl wE.heap.size wE).alloc (Nat.le_refl _) EndH
  exact ⟨(h.cell (p := ⟨sb, 1, none⟩) hlt).trans q1, (h.cell (p := ⟨sb, 2, none⟩) hlt).trans q2, (two_cells (heap_alloc_new wE EndH)).1, hb.alloc hnb EndH⟩
set_option maxHeartbeats 16000000 in
set_option maxRecDepth 100000 in
theorem hosted_any {w : World} {ad : Nat → Addr} {mx : Int} (hS : Sents w ad) (hm : w.cell? ⟨8, 0, none⟩ = some (.int .i64 mx)) :
    Calls Tryz.prog 4 #[] w fun e w' => e = .returned (.bool true) ∧ Below w.heap.size w w' := by
  have HMX := Lib.hid hm
  have HSE := Lib.hid hS
  clear hS hm
  have HS0 : StB (w.alloc (.cells #[.int .u32 0, .int .u32 0, .int .u32 0, .int .u32 0, .int .u32 0, .int .u32 0, .int .u32 0, .int .u32 0, .int .u32 0, .int .u32 0, .int .u32 0, .int .u32 0, .int .u32 0, .int .u32 0, .int .u32 0, .int .u32 0, .int .u32 0, .int .u32 0, .int .u32 0, .int .u32 0, .int .u32 0, .int .u32 0, .int .u32 0, .int .u32 0, .int .u32 0, .int .u32 0, .int .u32 0, .int .u32 0, .int .u32 0, .int .u32 0, .int .u32 0, .int .u32 0, .int .u32 0, .int .u32 0, .int .u32 0, .int .u32 0, .bool false, .int .u32 0, .int .u32 0, .int .u32 0, .int .u32 0, .int .u32 0, .int .i64 0] 26)) w.heap.size zeroS := StB.new w
  have HS1 := Lib.hid (HS0.put sH0)
  have hth := HS0.there
  have hin := Tryz.infoSt
  have HB1 := Lib.hid (((Below.refl w.heap.size w).alloc (Nat.le_refl _) (.cells #[.int .u32 0, .int .u32 0, .int .u32 0, .int .u32 0, .int .u32 0, .int .u32 0, .int .u32 0, .int .u32 0, .int .u32 0, .int .u32 0, .int .u32 0, .int .u32 0, .int .u32 0, .int .u32 0, .int .u32 0, .int .u32 0, .int .u32 0, .int .u32 0, .int .u32 0, .int .u32 0, .int .u32 0, .int .u32 0, .int .u32 0, .int .u32 0, .int .u32 0, .int .u32 0, .int .u32 0, .int .u32 0, .int .u32 0, .int .u32 0, .int .u32 0, .int .u32 0, .int .u32 0, .int .u32 0, .int .u32 0, .int .u32 0, .bool false, .int .u32 0, .int .u32 0, .int .u32 0, .int .u32 0, .int .u32 0, .int .i64 0] 26)).trans ((Kept.setCells w.heap.size (stL sH0) (w.alloc (.cells #[.int .u32 0, .int .u32 0, .int .u32 0, .int .u32 0, .int .u32 0, .int .u32 0, .int .u32 0, .int .u32 0, .int .u32 0, .int .u32 0, .int .u32 0, .int .u32 0, .int .u32 0, .int .u32 0, .int .u32 0, .int .u32 0, .int .u32 0, .int .u32 0, .int .u32 0, .int .u32 0, .int .u32 0, .int .u32 0, .int .u32 0, .int .u32 0, .int .u32 0, .int .u32 0, .int .u32 0, .int .u32 0, .int .u32 0, .int .u32 0, .int .u32 0, .int .u32 0, .int .u32 0, .int .u32 0, .int .u32 0, .int .u32 0, .bool false, .int .u32 0, .int .u32 0, .int .u32 0, .int .u32 0, .int .u32 0, .int .i64 0] 26)) 0).to_below (B := w.heap.size) (by simp) (fun k hk e => by omega)))
  clear HS0
  go_enter Tryz.func4, Tryz.ntmps4
  go_upto_region 2 with (first
    | (refine wpList_store_mid rfl 26 (.tmp 1) (.tmp 5) rfl w.heap.size 0 (stL sH0).toArray rfl rfl (by simpa [stL_len] using hth) (by rw [hin]; simp [stL_len]) (stL_one sH0) ?_))
  generalize ((w.alloc (.cells #[.int .u32 0, .int .u32 0, .int .u32 0, .int .u32 0, .int .u32 0, .int .u32 0, .int .u32 0, .int .u32 0, .int .u32 0, .int .u32 0, .int .u32 0, .int .u32 0, .int .u32 0, .int .u32 0, .int .u32 0, .int .u32 0, .int .u32 0, .int .u32 0, .int .u32 0, .int .u32 0, .int .u32 0, .int .u32 0, .int .u32 0, .int .u32 0, .int .u32 0, .int .u32 0, .int .u32 0, .int .u32 0, .int .u32 0, .int .u32 0, .int .u32 0, .int .u32 0, .int .u32 0, .int .u32 0, .int .u32 0, .int .u32 0, .bool false, .int .u32 0, .int .u32 0, .int .u32 0, .int .u32 0, .int .u32 0, .int .i64 0] 26)).setCells w.heap.size 0 (stL sH0)) = W1 at *
  have HS2 := Lib.hid ((show StB W1 w.heap.size sH0 from HS1.out).regH (show 1 < 32 by decide) 5)
  have HS3 := Lib.hid (HS2.out.regH (show 2 < 32 by decide) 6)
  have HBB : Hid (Below w.heap.size w ((W1.setCell ⟨w.heap.size, 1, none⟩ (.int .u32 5)).setCell ⟨w.heap.size, 2, none⟩ (.int .u32 6))) := Lib.hid ((HB1.out.setCell (p := ⟨w.heap.size, 1, none⟩) (Nat.le_refl _) (.int .u32 5)).setCell (p := ⟨w.heap.size, 2, none⟩) (Nat.le_refl _) (.int .u32 6))
  have x1 : W1.cell? ⟨w.heap.size, 1, none⟩ = some (.int .u32 0) := (show StB W1 w.heap.size sH0 from HS1.out).cell (show 1 < 43 by decide)
  have x2 : W1.cell? ⟨w.heap.size, 2, none⟩ = some (.int .u32 0) := (show StB W1 w.heap.size sH0 from HS1.out).cell (show 2 < 43 by decide)
  have xf1 : W1.frozen? ⟨w.heap.size, 1, none⟩ = false := (show StB W1 w.heap.size sH0 from HS1.out).free 1
  have xf2 : W1.frozen? ⟨w.heap.size, 2, none⟩ = false := (show StB W1 w.heap.size sH0 from HS1.out).free 2
  clear HB1 HS1 HS2 hth hin
  go_upto_region 4 with fail
  have HST : Hid (StB ((W1.setCell ⟨w.heap.size, 1, none⟩ (.int .u32 5)).setCell ⟨w.heap.size, 2, none⟩ (.int .u32 6)) w.heap.size sH) := HS3
  clear x1 x2 xf1 xf2 HS3
  generalize (W1.setCell ⟨w.heap.size, 1, none⟩ (.int .u32 5)).setCell ⟨w.heap.size, 2, none⟩ (.int .u32 6) = W2 at *
  go_upto_region 5 with fail
  rename_i K5 hK5
  have hl2 : w.heap.size < W2.heap.size := HST.out.lt
  have hr0 := rowsH_at W2
  have hba := ((Below.refl W2.heap.size W2).alloc (Nat.le_refl _) OpsH).alloc (by simp) (.cells #[.slice (some ⟨W2.heap.size, 0, none⟩) 3 3] 32)
  have hsz : ((W2.alloc OpsH).alloc (.cells #[.slice (some ⟨W2.heap.size, 0, none⟩) 3 3] 32)).heap.size = W2.heap.size + 2 := by simp
  have hbb := hba.alloc (by rw [hsz]; omega) (.cells #[.int .u32 0, .int .i64 1, .slice (some ⟨W2.heap.size + 1, 0, none⟩) 1 1] 45)
  have hbx := heap_alloc_new ((W2.alloc OpsH).alloc (.cells #[.slice (some ⟨W2.heap.size, 0, none⟩) 3 3] 32)) (.cells #[.int .u32 0, .int .i64 1, .slice (some ⟨W2.heap.size + 1, 0, none⟩) 1 1] 45)
  rw [hsz] at hbx
  have hr1 := hr0.below ((Below.refl _ _).alloc (Nat.le_refl _) (.cells #[.int .u32 0, .int .i64 1, .slice (some ⟨W2.heap.size + 1, 0, none⟩) 1 1] 45))
  generalize ((W2.alloc OpsH).alloc (.cells #[.slice (some ⟨W2.heap.size, 0, none⟩) 3 3] 32)).alloc (.cells #[.int .u32 0, .int .i64 1, .slice (some ⟨W2.heap.size + 1, 0, none⟩) 1 1] 45) = W3 at *
  have hbw := HBB.out.trans (hbb.mono HBB.out.size)
  have HPK : Hid (PkH W3 (W2.heap.size + 2) w.heap.size (W2.heap.size + 1) ad mx) := Lib.hid ⟨hbx, HST.out.of_block (hbb.block _ hl2), hr1, HSE.out.below hbw, (hbw.cell (World.block_lt_of_cell? _ _ HMX.out)).trans HMX.out⟩
  have HBW := Lib.hid hbw
  have HWS : Hid (w.heap.size < W3.heap.size) := Lib.hid (by have := hbb.size; omega)
  clear hr0 hba hsz hbb hbx hr1 hbw hl2 HST HBB HMX HSE
  generalize W2.heap.size + 2 = pb at *
  generalize W2.heap.size + 1 = gr at *
  have HNW : Hid (∀ wx, Below W3.heap.size W3 wx → Calls Tryz.prog 15 #[.slice none 0 0] wx fun e w' => ∃ r bb mw mh, e = .returned (.pointer (some ⟨r, 0, none⟩)) ∧ Below W3.heap.size W3 w' ∧ Below wx.heap.size wx w' ∧ RamP w' r bb mw mh (padW []) (fun _ => false) (fun _ => false) 0 ∧ (W3.heap.size ≤ r ∧ W3.heap.size ≤ bb ∧ W3.heap.size ≤ mw ∧ W3.heap.size ≤ mh ∧ (bb ≠ mw ∧ bb ≠ mh ∧ bb ≠ r ∧ mh ≠ r)) ∧ (wx.heap.size ≤ bb ∧ wx.heap.size ≤ mh)) := Lib.hid (fun wx hb => (newP_nil wx).mono (by
    rintro e w' ⟨r, bb, mw, mh, rfl, h1, h2, h3, h4, h5, h6, h7⟩
    have := hb.size
    exact ⟨r, bb, mw, mh, rfl, hb.trans (h2.mono hb.size), h2, h1, ⟨by omega, by omega, by omega, by omega, h7⟩, h4, h6⟩))
  have HCE : Hid (∀ wx, Below W3.heap.size W3 wx → wx.cell? ⟨pb, 0, none⟩ = some (.int .u32 0) ∧ wx.cell? ⟨pb, 1, none⟩ = some (.int .i64 1) ∧ wx.cell? ⟨pb, 2, none⟩ = some (.slice (some ⟨gr, 0, none⟩) 1 1)) := Lib.hid (fun wx hb => (by
    obtain ⟨h1, h2, h3, _⟩ := plan_cells (HPK.out.below hb).box
    exact ⟨h1, h2, h3⟩))
  have HEV : Hid (∀ wx r bb mw mh, Below W3.heap.size W3 wx → RamP wx r bb mw mh (padW []) (fun _ => false) (fun _ => false) 0 → (W3.heap.size ≤ r ∧ W3.heap.size ≤ bb ∧ W3.heap.size ≤ mw ∧ W3.heap.size ≤ mh ∧ (bb ≠ mw ∧ bb ≠ mh ∧ bb ≠ r ∧ mh ≠ r)) → Calls Tryz.prog 12 #[.agg #[.int .u32 0, .int .i64 1, .slice (some ⟨gr, 0, none⟩) 1 1], .pointer (some ⟨w.heap.size, 0, none⟩), .pointer (some ⟨r, 0, none⟩)] wx fun e w' => EndedH wx w.heap.size bb mh e w' ∧ Below w.heap.size w w') := Lib.hid (fun wx r bb mw mh hb hr hs => ((HPK.out.below hb).run hr ⟨by have := HWS.out; omega, by have := HWS.out; omega, by have := HWS.out; omega, by have := HWS.out; omega⟩ hs.2.2.2.2).mono (by
    intro e w' h
    refine ⟨h, ?_⟩
    obtain ⟨_, _, _, _, hk⟩ := h
    have e1 := HBW.out.size
    have e2 := hb.size
    exact (HBW.out.trans (hb.mono HBW.out.size)).trans (hk.to_below (by omega) (fun k hk e => by have := HWS.out; omega))))
  clear HPK
  obtain ⟨a0, a1, a2⟩ := HCE.out _ (Below.refl W3.heap.size W3)
  obtain ⟨b0, b1, b2⟩ := HCE.out _ ((Below.refl W3.heap.size W3).alloc (Nat.le_refl _) EndH)
  have HBA := Lib.hid ((Below.refl W3.heap.size W3).alloc (Nat.le_refl _) EndH)
  have HSA : Hid ((W3.alloc EndH).heap.size = W3.heap.size + 1) := Lib.hid (by simp)
  go_region_with (first
    | (go_at_call 15; refine (HNW.out _ (by first | exact Below.refl _ _ | exact (Below.refl _ _).drew | exact HBA.out | exact HBA.out.drew | exact ((Below.refl W3.heap.size W3).drew).alloc (Nat.le_refl _) EndH)).mono ?_; rintro e wN ⟨r, bb, mw, mh, rfl, HBN, HBN2, HRM, HSP, HBM⟩; obtain ⟨c0, c1, c2⟩ := HCE.out _ HBN; obtain ⟨d0, d1, d2⟩ := HCE.out _ (HBN.alloc HBN.size EndH); replace HBN := Lib.hid HBN; replace HBN2 := Lib.hid HBN2; replace HRM := Lib.hid HRM; replace HSP := Lib.hid HSP; replace HBM := Lib.hid HBM)
    | (go_at_call 12; (first | refine (HEV.out _ r bb mw mh HBN.out HRM.out HSP.out).mono ?_ | refine (HEV.out _ r bb mw mh (HBN.out.alloc HBN.out.size EndH) (HRM.out.below ((Below.refl wN.heap.size wN).alloc (Nat.le_refl _) EndH)) HSP.out).mono ?_); rintro e wE ⟨⟨rfl, HQ1, HQ2, HSL, HKE⟩, HBE⟩; (first | (have hE := endBlkH (w0 := W3) HWS.out (by have h1 := HBM.out.1; have h2 := HSA.out; omega) (by have h1 := HBM.out.2; have h2 := HSA.out; omega) HBN2.out HKE; obtain ⟨e0, e1⟩ := two_cells hE; obtain ⟨g0, g1⟩ := two_free hE; replace hE := Lib.hid hE) | (have hE : wE.heap[W3.heap.size]? = some (Obj.cells #[.bool false, .int .i64 0] 52 (0, 0)) := endBlkH (w0 := W3.drew) HWS.out (by have h1 : (W3.alloc EndH).heap.size ≤ bb := HBM.out.1; rw [HSA.out] at h1; show bb ≠ W3.heap.size; omega) (by have h1 : (W3.alloc EndH).heap.size ≤ mh := HBM.out.2; rw [HSA.out] at h1; show mh ≠ W3.heap.size; omega) HBN2.out HKE; obtain ⟨e0, e1⟩ := two_cells hE; obtain ⟨g0, g1⟩ := two_free hE; replace hE := Lib.hid hE) | (have hE := endBlkH (w0 := wN) (by have := HBN.out.size; have := HWS.out; omega) (by have := HRM.out.bytes.lt; omega) (by have := HRM.out.hits.lt; omega) (Below.refl _ _) HKE; obtain ⟨e0, e1⟩ := two_cells hE; obtain ⟨g0, g1⟩ := two_free hE; replace hE := Lib.hid hE) | skip); replace HQ1 := Lib.hid HQ1; replace HQ2 := Lib.hid HQ2; replace HSL := Lib.hid HSL; replace HKE := Lib.hid HKE; replace HBE := Lib.hid HBE))
  all_goals change K5 _ _
  all_goals first
    | (obtain ⟨q1, q2, q0, q3⟩ := endFinH (b := W3.heap.size) HQ1.out HQ2.out hE.out (by have := HWS.out; omega) (HBW.out.size) HBE.out
       refine hK5 _ ((wE.setCell ⟨W3.heap.size, 0, none⟩ (.bool false)).setCell ⟨W3.heap.size, 1, none⟩ (.int .i64 0)) ?_
       generalize ((wE.setCell ⟨W3.heap.size, 0, none⟩ (.bool false)).setCell ⟨W3.heap.size, 1, none⟩ (.int .i64 0)) = F at *)
    | (obtain ⟨q1, q2, q0, q3⟩ := endFinH (b := wN.heap.size) HQ1.out HQ2.out hE.out (by have := HWS.out; have := HBN.out.size; omega) (by have := HBW.out.size; have := HBN.out.size; omega) HBE.out
       refine hK5 _ ((wE.setCell ⟨wN.heap.size, 0, none⟩ (.bool false)).setCell ⟨wN.heap.size, 1, none⟩ (.int .i64 0)) ?_
       generalize ((wE.setCell ⟨wN.heap.size, 0, none⟩ (.bool false)).setCell ⟨wN.heap.size, 1, none⟩ (.int .i64 0)) = F at *)
    | (obtain ⟨q1, q2, q0, q3⟩ := endAlH HSL.out HQ1.out HQ2.out HBE.out.size HBE.out
       refine hK5 _ (wE.alloc EndH) ?_
       generalize wE.alloc EndH = F at *)
  all_goals
    replace q3 := Lib.hid q3
    clear HQ1 HQ2 HSL HKE HBE HBN HBN2 HRM HSP HBM HEV HCE HNW HBA HBW HSA
    clear hK5
    clear a0 a1 a2 b0 b1 b2 c0 c1 c2 d0 d1 d2
    go_wp2_with fail
    go_ret
    exact ⟨rfl, q3.out⟩
end Go.Proofs.YtlnefmgiiogcmaaGreatDoor
