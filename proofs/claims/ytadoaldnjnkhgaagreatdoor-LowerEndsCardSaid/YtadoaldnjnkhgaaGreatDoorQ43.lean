/- The walk of law3's lowered: a closed fact. Conditions: as each theorem states. -/
import Derived.Test.YtadoaldnjnkhgaaGreatDoorQ31
import Derived.Test.YtadoaldnjnkhgaaGreatDoorQ42
import Derived.Deep.MidRow
import Derived.Deep.RegionWith
set_option linter.unusedVariables false
set_option linter.unusedSimpArgs false
namespace Go.Proofs.YtadoaldnjnkhgaaGreatDoor
open Go.RowKit
theorem Tryz.infoBy : (Tryz.prog.info? 5).map (fun i => (i.zero, i.size, i.bytes)) = some (some (.int .u8 0), 1, 1) := by kernel_rfl
set_option maxHeartbeats 4000000 in
set_option maxRecDepth 100000 in
theorem ramNew_nil (w : World) : Calls Tryz.prog 16 #[.slice none 0 0] w fun e w' => ∃ r, e = .returned (.pointer (some ⟨r, 0, none⟩)) ∧ Below w.heap.size w w' := by
  obtain ⟨mc, hmc, hmc1, hmc2⟩ := made_row (.int .u8 0) 16384
  have hmk : ∀ W : World, (Instr.makeSlice 111 (.int .i64 16384) (.int .i64 16384)).run Tryz.prog W = .ok (.slice (some ⟨W.heap.size, 0, none⟩) 16384 16384) (W.alloc (.cells mc 5)) := by
    intro W
    rw [← hmc]
    exact run_make_row' 111 5 (.int .u8 0) 1 Tryz.underlying111 Tryz.infoBy rfl .i64 .i64 16384 (by decide) (by decide) W
  have hmm := @run_makeMap Tryz.prog
  clear hmc hmc1 hmc2
  go_enter Tryz.func16, Tryz.ntmps16
  go_wp2_with fail
  have HB0 : Below w.heap.size w ((((w.alloc (.cells mc 5)).alloc (.map #[] 0)).alloc (.map #[] 0)).alloc (.cells #[.slice (some ⟨w.heap.size, 0, none⟩) 16384 16384, .map (some (w.heap.size + 1)), .map (some (w.heap.size + 1 + 1))] 114)) :=
    ((((Below.refl _ _).alloc (Nat.le_refl _) _).alloc (by simp <;> omega) _).alloc (by simp <;> omega) _).alloc (by simp <;> omega) _
  have HB := Lib.hid HB0
  generalize ((((w.alloc (.cells mc 5)).alloc (.map #[] 0)).alloc (.map #[] 0)).alloc (.cells #[.slice (some ⟨w.heap.size, 0, none⟩) 16384 16384, .map (some (w.heap.size + 1)), .map (some (w.heap.size + 1 + 1))] 114)) = w1 at *
  clear hmk hmm HB0
  go_loopw [17] (fun i wr => i = .int .i64 0 ∧ wr = w1) (fun _ _ => 0)
  case atStart => exact ⟨rfl, rfl⟩
  case round =>
    obtain ⟨rfl, rfl⟩ := hrel
    go_wp2
    go_ret
    exact ⟨_, rfl, HB.out⟩
def insL : List InsN := [⟨36, 0, 1, 0, 7⟩]
theorem lowL : lowAll 8 insL = [⟨.set, 34, 0, 0, 7, 0⟩, ⟨.add, 1, 0, 34, 0, 0⟩, ⟨.out, 0, 0, 0, 12, 0⟩] := by rfl
theorem regL0 : regErr insL = 0 := by decide +kernel
def s8 : StF := ⟨fun _ => 0, 0, 0, 8, 12, false, 0, 0, 0, 0, 0, 0⟩
theorem insL_at (w : World) : InsAt (w.alloc (.cells #[.int .i64 36, .int .i64 0, .int .i64 1, .int .i64 0, .int .u32 7] 61)) w.heap.size 0 insL where
  row j hj := by
    have hj0 : j = 0 := by have : insL.length = 1 := rfl; omega
    subst hj0
    refine ⟨?_, ?_, ?_, ?_, ?_⟩ <;> (simp only [World.cell?, heap_alloc_new]; rfl)
abbrev EndO : Obj := .cells #[.bool false, .int .i64 0] 63
def opsLw : List OpN := [⟨.set, 34, 0, 0, 7, 0⟩, ⟨.add, 1, 0, 34, 0, 0⟩, ⟨.out, 0, 0, 0, 12, 0⟩]
def s9 : StF := leftS s8 (runR (opsLw.take (opsLw.length - 1)) (regsP s8)) 12 1
theorem linL : LinOK 1 opsLw where
  code := by
    have h := lowAll_ok (pc := 8) regL0 (by intro i hi; simp only [insL, List.mem_singleton] at hi; subst hi; decide)
    rw [lowL] at h
    exact h
  lin := by
    intro j h
    have hj : j = 0 ∨ j = 1 := by have : opsLw.length = 3 := rfl; omega
    rcases hj with rfl | rfl
    · left; rfl
    · right; rfl
  last := by
    intro j h
    have hj : j = 2 := by have : opsLw.length = 3 := rfl; omega
    subst hj
    rfl
structure PkL (w : World) (b sb g cap : Nat) (mx : Int) : Prop where
  box : CodeBox w b 8 1 (.slice (some ⟨g, 0, none⟩) 3 cap)
  st : StB w sb s8
  ops : OpsAt w g opsLw
  mx : w.cell? ⟨11, 0, none⟩ = some (.int .i64 mx)
theorem PkL.below {w w' : World} {b sb g cap : Nat} {mx : Int} (h : PkL w b sb g cap mx) (hb : Below w.heap.size w w') : PkL w' b sb g cap mx where
  box := (hb.block b (Array.getElem?_eq_some_iff.1 h.box).1).trans h.box
  st := h.st.of_block (hb.block sb h.st.lt)
  ops := h.ops.below hb h.ops.lt
  mx := (hb.cell (World.block_lt_of_cell? _ _ h.mx)).trans h.mx
theorem PkL.eval {w : World} {b sb g cap r : Nat} {mx : Int} (h : PkL w b sb g cap mx) : Calls Tryz.prog 15 #[.agg #[.int .u32 8, .int .i64 1, .slice (some ⟨g, 0, none⟩) 3 cap], .pointer (some ⟨sb, 0, none⟩), .pointer (some ⟨r, 0, none⟩)] w fun e w' => e = .returned (.tuple #[.agg #[.bool false, .int .i64 0], .nilIface]) ∧ StB w' sb s9 ∧ Kept (fun k => k = sb) w w' :=
  evalP_lin (many := 1) (ops := opsLw) (pc := 8) (s := s8) (cap := cap) h.st h.ops linL h.mx rfl rfl rfl (by decide) (by decide)
theorem endBlk {w0 wx wy : World} {sb : Nat} (hsb : sb < w0.heap.size) (hb : Below (w0.alloc EndO).heap.size (w0.alloc EndO) wx) (hk : Kept (fun k => k = sb) wx wy) : wy.heap[w0.heap.size]? = some (Obj.cells #[.bool false, .int .i64 0] 63 (0, 0)) := by
  have h0 := heap_alloc_new w0 EndO
  have hlt : w0.heap.size < (w0.alloc EndO).heap.size := by simp
  have h1 := (hb.block _ hlt).trans h0
  exact (hk.same _ (Array.getElem?_eq_some_iff.1 h1).1 (by omega)).trans h1
theorem endFin {w wE : World} {sb b n : Nat} (hs : StB wE sb s9) (hE : wE.heap[b]? = some (Obj.cells #[.bool false, .int .i64 0] 63 (0, 0))) (hne : sb ≠ b) (hnb : n ≤ b) (hb : Below n w wE) :
    StB ((wE.setCell ⟨b, 0, none⟩ (.bool false)).setCell ⟨b, 1, none⟩ (.int .i64 0)) sb s9 ∧ ((wE.setCell ⟨b, 0, none⟩ (.bool false)).setCell ⟨b, 1, none⟩ (.int .i64 0)).cell? ⟨b, 0, none⟩ = some (.bool false) ∧ Below n w ((wE.setCell ⟨b, 0, none⟩ (.bool false)).setCell ⟨b, 1, none⟩ (.int .i64 0)) := by
  have h2 : ((wE.setCell ⟨b, 0, none⟩ (.bool false)).setCell ⟨b, 1, none⟩ (.int .i64 0)).heap[b]? = some (Obj.cells #[.bool false, .int .i64 0] 63 (0, 0)) := Joins.block_setCell (Joins.block_setCell hE _) _
  exact ⟨Row.kept (Row.kept hs (Kept.set wE b 0 _) hne) (Kept.set _ b 1 _) hne, (two_cells h2).1, (hb.setCell hnb _).setCell hnb _⟩
theorem endAl {w wE : World} {sb n : Nat} (hs : StB wE sb s9) (hnb : n ≤ wE.heap.size) (hb : Below n w wE) :
    StB (wE.alloc EndO) sb s9 ∧ (wE.alloc EndO).cell? ⟨wE.heap.size, 0, none⟩ = some (.bool false) ∧ Below n w (wE.alloc EndO) :=
  ⟨hs.of_block (((Below.refl wE.heap.size wE).alloc (Nat.le_refl _) EndO).block _ hs.lt), (two_cells (heap_alloc_new wE EndO)).1, hb.alloc hnb EndO⟩
set_option maxHeartbeats 8000000 in
set_option maxRecDepth 100000 in
theorem lowered_any {w : World} {ad : Nat → Addr} {mx : Int} (hS : Sents w ad) (hm : w.cell? ⟨11, 0, none⟩ = some (.int .i64 mx)) :
    Calls Tryz.prog 4 #[] w fun e w' => e = .returned (.bool true) ∧ Below w.heap.size w w' := by
  have hb0 := (Below.refl w.heap.size w).alloc (Nat.le_refl _) (.cells #[.int .i64 36, .int .i64 0, .int .i64 1, .int .i64 0, .int .u32 7] 61)
  have HL := Lib.hid (lower_any (cap := 1) (pc := 8) (vp := .slice none 0 0) (l := insL) (by decide) (insL_at w) (by intro i hi; simp only [insL, List.mem_singleton] at hi; subst hi; exact ⟨by decide, by decide, by decide, by decide, by decide, by decide, by decide, by decide, by decide, by decide⟩) (hS.below hb0) (by decide) (by decide) ⟨_, _, heap_alloc_new w _⟩)
  have HB0 := Lib.hid hb0
  have HMX := Lib.hid hm
  clear hb0 hS hm
  go_enter Tryz.func4, Tryz.ntmps4
  go_wp2_with fail
  refine HL.out.mono ?_
  intro e w1 hp
  unfold LowerPost at hp
  rw [if_pos regL0, lowL, show ((insL.length : Nat) : Int) = 1 from rfl] at hp
  obtain ⟨ov, rfl, hown, hb1⟩ := hp
  obtain ⟨g, cap, rfl, hg, hcap, hops⟩ := opsAt_own hown (by decide)
  have HB1 := Lib.hid (HB0.out.trans (hb1.mono HB0.out.size))
  have HO := Lib.hid hops
  clear hown hb1 hg hcap hops HL HB0
  have hbc := (Below.refl w1.heap.size w1).alloc (Nat.le_refl _) (.cells #[.int .u32 8, .int .i64 1, .slice (some ⟨g, 0, none⟩) 3 cap] 34)
  have HCB : Hid (CodeBox (w1.alloc (.cells #[.int .u32 8, .int .i64 1, .slice (some ⟨g, 0, none⟩) 3 cap] 34)) w1.heap.size 8 1 (.slice (some ⟨g, 0, none⟩) 3 cap)) := Lib.hid (heap_alloc_new w1 _)
  have HB2 := Lib.hid hbc
  have HSZ := Lib.hid (show (w1.alloc (.cells #[.int .u32 8, .int .i64 1, .slice (some ⟨g, 0, none⟩) 3 cap] 34)).heap.size = w1.heap.size + 1 by simp)
  clear hbc
  go_upto_region 2 with fail
  generalize w1.alloc (.cells #[.int .u32 8, .int .i64 1, .slice (some ⟨g, 0, none⟩) 3 cap] 34) = W2 at *
  have HS0 : StB (W2.alloc (.cells #[.int .u32 0, .int .u32 0, .int .u32 0, .int .u32 0, .int .u32 0, .int .u32 0, .int .u32 0, .int .u32 0, .int .u32 0, .int .u32 0, .int .u32 0, .int .u32 0, .int .u32 0, .int .u32 0, .int .u32 0, .int .u32 0, .int .u32 0, .int .u32 0, .int .u32 0, .int .u32 0, .int .u32 0, .int .u32 0, .int .u32 0, .int .u32 0, .int .u32 0, .int .u32 0, .int .u32 0, .int .u32 0, .int .u32 0, .int .u32 0, .int .u32 0, .int .u32 0, .int .u32 0, .int .u32 0, .int .u32 0, .int .u32 0, .bool false, .int .u32 0, .int .u32 0, .int .u32 0, .int .u32 0, .int .u32 0, .int .i64 0] 26)) W2.heap.size zeroS := StB.new W2
  have HS1 := Lib.hid (HS0.put s8)
  have hth := HS0.there
  have hin := Tryz.infoSt
  have HB3 := Lib.hid (((Below.refl W2.heap.size W2).alloc (Nat.le_refl _) (.cells #[.int .u32 0, .int .u32 0, .int .u32 0, .int .u32 0, .int .u32 0, .int .u32 0, .int .u32 0, .int .u32 0, .int .u32 0, .int .u32 0, .int .u32 0, .int .u32 0, .int .u32 0, .int .u32 0, .int .u32 0, .int .u32 0, .int .u32 0, .int .u32 0, .int .u32 0, .int .u32 0, .int .u32 0, .int .u32 0, .int .u32 0, .int .u32 0, .int .u32 0, .int .u32 0, .int .u32 0, .int .u32 0, .int .u32 0, .int .u32 0, .int .u32 0, .int .u32 0, .int .u32 0, .int .u32 0, .int .u32 0, .int .u32 0, .bool false, .int .u32 0, .int .u32 0, .int .u32 0, .int .u32 0, .int .u32 0, .int .i64 0] 26)).trans ((Kept.setCells W2.heap.size (stL s8).toArray.toList (W2.alloc (.cells #[.int .u32 0, .int .u32 0, .int .u32 0, .int .u32 0, .int .u32 0, .int .u32 0, .int .u32 0, .int .u32 0, .int .u32 0, .int .u32 0, .int .u32 0, .int .u32 0, .int .u32 0, .int .u32 0, .int .u32 0, .int .u32 0, .int .u32 0, .int .u32 0, .int .u32 0, .int .u32 0, .int .u32 0, .int .u32 0, .int .u32 0, .int .u32 0, .int .u32 0, .int .u32 0, .int .u32 0, .int .u32 0, .int .u32 0, .int .u32 0, .int .u32 0, .int .u32 0, .int .u32 0, .int .u32 0, .int .u32 0, .int .u32 0, .bool false, .int .u32 0, .int .u32 0, .int .u32 0, .int .u32 0, .int .u32 0, .int .i64 0] 26)) 0).to_below (by simp) (fun k hk e => by omega)))
  clear HS0
  go_upto_region 3 with (first
    | (refine wpList_store_mid rfl 26 (.tmp 3) (.tmp 13) rfl W2.heap.size 0 (stL s8).toArray rfl rfl (by simpa [stL_len] using hth) (by rw [hin]; simp [stL_len]) (stL_one s8) ?_))
  rename_i K3 hK3
  generalize (W2.alloc (.cells #[.int .u32 0, .int .u32 0, .int .u32 0, .int .u32 0, .int .u32 0, .int .u32 0, .int .u32 0, .int .u32 0, .int .u32 0, .int .u32 0, .int .u32 0, .int .u32 0, .int .u32 0, .int .u32 0, .int .u32 0, .int .u32 0, .int .u32 0, .int .u32 0, .int .u32 0, .int .u32 0, .int .u32 0, .int .u32 0, .int .u32 0, .int .u32 0, .int .u32 0, .int .u32 0, .int .u32 0, .int .u32 0, .int .u32 0, .int .u32 0, .int .u32 0, .int .u32 0, .int .u32 0, .int .u32 0, .int .u32 0, .int .u32 0, .bool false, .int .u32 0, .int .u32 0, .int .u32 0, .int .u32 0, .int .u32 0, .int .i64 0] 26)).setCells W2.heap.size 0 (stL s8).toArray.toList = W3 at *
  have hW3 : W2.heap.size < W3.heap.size := HS1.out.lt
  have HBW : Hid (Below w.heap.size w W3) := Lib.hid ((HB1.out.trans (HB2.out.mono HB1.out.size)).trans (HB3.out.mono (by have := HB1.out.size; have := HB2.out.size; omega)))
  have hx : w1.heap.size < W2.heap.size := by have := HSZ.out; omega
  have HPK : Hid (PkL W3 w1.heap.size W2.heap.size g cap mx) := Lib.hid {
    box := (HB3.out.block _ hx).trans HCB.out
    st := HS1.out
    ops := (HO.out.below HB2.out HO.out.lt).below HB3.out (by have := HO.out.lt; omega)
    mx := (HB3.out.cell (by have := HB2.out.size; have := HB1.out.size; have := World.block_lt_of_cell? _ _ HMX.out; simp only at *; omega)).trans ((HB2.out.cell (by have := HB1.out.size; have := World.block_lt_of_cell? _ _ HMX.out; simp only at *; omega)).trans ((HB1.out.cell (World.block_lt_of_cell? _ _ HMX.out)).trans HMX.out)) }
  have HFW : Hid (∀ wx wE, Below W3.heap.size W3 wx → Kept (fun k => k = W2.heap.size) wx wE → w.heap.size ≤ wE.heap.size ∧ Below w.heap.size w wE) := Lib.hid (fun wx wE h1 h2 => by
    have e1 := HB1.out.size; have e2 := HB2.out.size; have e3 := HB3.out.size; have e4 := h1.size; have e5 := h2.below.size
    exact ⟨by omega, (HBW.out.trans (h1.mono HBW.out.size)).trans (h2.to_below (by omega) (fun k hk e => by omega))⟩)
  have HWS := Lib.hid hW3
  have HXS := Lib.hid hx
  clear hW3 hx HS1 hth hin HB3 HB2 HO HCB HSZ HB1 HMX
  have HNW : Hid (∀ wx, Below W3.heap.size W3 wx → Calls Tryz.prog 16 #[.slice none 0 0] wx fun e w' => ∃ r, e = .returned (.pointer (some ⟨r, 0, none⟩)) ∧ Below W3.heap.size W3 w' ∧ Below wx.heap.size wx w') := Lib.hid (fun wx hb => (ramNew_nil wx).mono (by rintro e w' ⟨r, rfl, h⟩; exact ⟨r, rfl, hb.trans (h.mono hb.size), h⟩))
  have HCE : Hid (∀ wx, Below W3.heap.size W3 wx → wx.cell? ⟨w1.heap.size, 0, none⟩ = some (.int .u32 8) ∧ wx.cell? ⟨w1.heap.size, 1, none⟩ = some (.int .i64 1) ∧ wx.cell? ⟨w1.heap.size, 2, none⟩ = some (.slice (some ⟨g, 0, none⟩) 3 cap)) := Lib.hid (fun wx hb => (HPK.out.below hb).box.cells)
  have HEV : Hid (∀ wx r, Below W3.heap.size W3 wx → Calls Tryz.prog 15 #[.agg #[.int .u32 8, .int .i64 1, .slice (some ⟨g, 0, none⟩) 3 cap], .pointer (some ⟨W2.heap.size, 0, none⟩), .pointer (some ⟨r, 0, none⟩)] wx fun e w' => e = .returned (.tuple #[.agg #[.bool false, .int .i64 0], .nilIface]) ∧ StB w' W2.heap.size s9 ∧ Kept (fun k => k = W2.heap.size) wx w' ∧ Below W3.heap.size W3 wx) := Lib.hid (fun wx r hb => ((HPK.out.below hb).eval).mono (by rintro e w' ⟨rfl, h1, h2⟩; exact ⟨rfl, h1, h2, hb⟩))
  obtain ⟨a0, a1, a2⟩ := HCE.out _ (Below.refl W3.heap.size W3)
  obtain ⟨b0, b1, b2⟩ := HCE.out _ ((Below.refl W3.heap.size W3).alloc (Nat.le_refl _) EndO)
  have HBA := Lib.hid ((Below.refl W3.heap.size W3).alloc (Nat.le_refl _) EndO)
  go_region_with (first
    | (go_at_call 16; refine (HNW.out _ (by first | exact Below.refl _ _ | exact (Below.refl _ _).drew | exact HBA.out | exact HBA.out.drew | exact ((Below.refl W3.heap.size W3).drew).alloc (Nat.le_refl _) EndO)).mono ?_; rintro e wN ⟨r, rfl, HBN, HBN2⟩; obtain ⟨c0, c1, c2⟩ := HCE.out _ HBN; obtain ⟨d0, d1, d2⟩ := HCE.out _ (HBN.alloc HBN.size EndO); replace HBN := Lib.hid HBN; replace HBN2 := Lib.hid HBN2)
    | (go_at_call 15; refine (HEV.out _ _ (by first | exact HBN.out | exact HBN.out.alloc HBN.out.size EndO)).mono ?_; rintro e wE ⟨rfl, HSE, HKE, HBE⟩; (first | (have hE := endBlk (sb := W2.heap.size) (w0 := W3) HWS.out HBN2.out HKE; obtain ⟨e0, e1⟩ := two_cells hE; obtain ⟨g0, g1⟩ := two_free hE; replace hE := Lib.hid hE) | (have hE : wE.heap[W3.heap.size]? = some (Obj.cells #[.bool false, .int .i64 0] 63 (0, 0)) := endBlk (sb := W2.heap.size) (w0 := W3.drew) HWS.out HBN2.out HKE; obtain ⟨e0, e1⟩ := two_cells hE; obtain ⟨g0, g1⟩ := two_free hE; replace hE := Lib.hid hE) | (have hE := endBlk (sb := W2.heap.size) (w0 := wN) (by have := HBN.out.size; have := HWS.out; omega) (Below.refl _ _) HKE; obtain ⟨e0, e1⟩ := two_cells hE; obtain ⟨g0, g1⟩ := two_free hE; replace hE := Lib.hid hE) | skip); replace HSE := Lib.hid HSE; replace HKE := Lib.hid HKE; replace HBE := Lib.hid HBE))
  all_goals change K3 _ _
  all_goals first
    | (obtain ⟨q1, q2, q3⟩ := endFin (b := W3.heap.size) HSE.out hE.out (by have := HWS.out; omega) (HBW.out.size) (HFW.out _ _ HBE.out HKE.out).2
       refine hK3 _ ((wE.setCell ⟨W3.heap.size, 0, none⟩ (.bool false)).setCell ⟨W3.heap.size, 1, none⟩ (.int .i64 0)) ?_
       generalize ((wE.setCell ⟨W3.heap.size, 0, none⟩ (.bool false)).setCell ⟨W3.heap.size, 1, none⟩ (.int .i64 0)) = F at *)
    | (obtain ⟨q1, q2, q3⟩ := endFin (b := wN.heap.size) HSE.out hE.out (by have := HWS.out; have := HBN.out.size; omega) (by have := HBW.out.size; have := HBN.out.size; omega) (HFW.out _ _ HBE.out HKE.out).2
       refine hK3 _ ((wE.setCell ⟨wN.heap.size, 0, none⟩ (.bool false)).setCell ⟨wN.heap.size, 1, none⟩ (.int .i64 0)) ?_
       generalize ((wE.setCell ⟨wN.heap.size, 0, none⟩ (.bool false)).setCell ⟨wN.heap.size, 1, none⟩ (.int .i64 0)) = F at *)
    | (obtain ⟨q1, q2, q3⟩ := endAl HSE.out (HFW.out _ _ HBE.out HKE.out).1 (HFW.out _ _ HBE.out HKE.out).2
       refine hK3 _ (wE.alloc EndO) ?_
       generalize wE.alloc EndO = F at *)
  all_goals
    have q4 : F.cell? ⟨W2.heap.size, 1, none⟩ = some (.int .u32 7) := q1.cell (by decide)
    have q5 : F.cell? ⟨W2.heap.size, 34, none⟩ = some (.int .u32 12) := q1.cell (by decide)
    replace q1 := Lib.hid q1
    replace q3 := Lib.hid q3
    clear HSE HKE HBE HBN HBN2 HFW HEV HCE HNW HPK HBA HBW
    clear hK3
    clear a0 a1 a2 b0 b1 b2 c0 c1 c2 d0 d1 d2
    go_wp2_with fail
    go_ret
    exact ⟨rfl, q3.out⟩
end Go.Proofs.YtadoaldnjnkhgaaGreatDoor
