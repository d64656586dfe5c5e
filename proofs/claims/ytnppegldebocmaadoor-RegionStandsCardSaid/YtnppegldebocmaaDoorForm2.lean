/- The walks of region.Form's refusals, of Len, Ends, sameIns. Conditions: as each theorem states. -/
import Derived.Test.YtnppegldebocmaaDoorForm
import Derived.Deep.MidRow
namespace Go.Proofs.YtnppegldebocmaaDoor
open Go.RowKit
set_option linter.unusedVariables false
/-- A block holds these instructions, five cells each. -/
def InsRow (w : World) (g : Nat) (L : List InsN) : Prop := ∀ j (h : j < L.length), w.rangeAt g (j * 5) (insC L[j])
theorem flat_get : ∀ (L : List InsN) (j : Nat) (h : j < L.length) (c : Nat), c < 5 → (L.flatMap insC)[j * 5 + c]? = (insC L[j])[c]?
  | [], j, h, c, hc => absurd h (Nat.not_lt_zero j)
  | i :: t, 0, h, c, hc => by
    rw [List.flatMap_cons, List.getElem?_append_left (by simp; omega)]
    simp
  | i :: t, j + 1, h, c, hc => by
    rw [List.flatMap_cons, List.getElem?_append_right (by simp; omega)]
    have := flat_get t j (by simpa using h) c hc
    simp only [List.length_cons, List.length_nil, List.getElem_cons_succ]
    rw [← this]
    congr 1
    omega
theorem insRow_own {w : World} {B : Nat} {v : Value} {n : Nat} {L : List InsN} (h : w.ownsRow B 25 5 v n (L.flatMap insC)) (hL : L.length = n) (hn : n ≠ 0) :
    ∃ g cap, v = .slice (some ⟨g, 0, none⟩) n cap ∧ B ≤ g ∧ g < w.heap.size ∧ n ≤ cap ∧ InsRow w g L := by
  obtain ⟨hl, h' | ⟨g, cap, cur, hv, hg, hh, hc, _⟩⟩ := id h
  · exact absurd h'.2 hn
  · refine ⟨g, cap, hv, hg, (Array.getElem?_eq_some_iff.1 hh).1, hc, fun j hj c u hu => ?_⟩
    have hc5 : c < 5 := by simpa using (List.getElem?_eq_some_iff.1 hu).1
    have := h.cells (show v.ownBlock = some g by rw [hv]; rfl) (j * 5 + c) u (by rw [flat_get L j hj c hc5]; exact hu)
    have ha : (⟨g, 0, none⟩ : Addr).add (j * 5 + c) = ⟨g, j * 5 + c, none⟩ := by
      unfold Addr.add
      simp
      omega
    rw [ha] at this
    exact this
theorem InsRow.cells {w : World} {g : Nat} {L : List InsN} (h : InsRow w g L) (j : Nat) (hj : j < L.length) :
    w.cell? ⟨g, j * 5, none⟩ = some (.int .i64 L[j].op) ∧ w.cell? ⟨g, j * 5 + 1, none⟩ = some (.int .i64 L[j].s) ∧ w.cell? ⟨g, j * 5 + 2, none⟩ = some (.int .i64 L[j].t) ∧ w.cell? ⟨g, j * 5 + 3, none⟩ = some (.int .i64 L[j].d) ∧ w.cell? ⟨g, j * 5 + 4, none⟩ = some (.int .u32 L[j].imm) :=
  ⟨h j hj 0 _ rfl, h j hj 1 _ rfl, h j hj 2 _ rfl, h j hj 3 _ rfl, h j hj 4 _ rfl⟩
theorem InsRow.below {w w' : World} {g B : Nat} {L : List InsN} (h : InsRow w g L) (hb : Below B w w') (hg : g < B) : InsRow w' g L := fun j hj c u hu => (hb.cell hg).trans (h j hj c u hu)
set_option maxHeartbeats 2000000 in
theorem form_bad (r : Nat) (most : Int) (hm : 1 ≤ most ∧ most ≤ 24) (pc : Int) (h0 : 0 ≤ pc) (h1 : pc < 4294967296) (hp : ¬ pc % 4 = 0 ∨ 16384 ≤ pc) (tF tA : TypeId) (pF pA : Value) (w : World) (hF : w.cell? ⟨3, 0, none⟩ = some (.iface tF pF)) (hA : w.cell? ⟨2, 0, none⟩ = some (.iface tA pA)) :
    Calls Tryd.prog 15 #[.pointer (some ⟨r, 0, none⟩), .int .u32 pc, .int .i64 most] w fun e w' => Below w.heap.size w w' ∧ ∃ t p, e = .returned (.tuple #[.agg #[.int .u32 0, .slice none 0 0, .slice none 0 0], .iface t p]) := by
  have hm1 : 1 ≤ most := hm.1
  have hm2 : most ≤ 24 := hm.2
  clear hm h1
  have hAl := (Below.refl w.heap.size w).alloc (Nat.le_refl _) (.cells #[.int .u32 0, .slice none 0 0, .slice none 0 0] 37)
  have hg : Rg (w.alloc (.cells #[.int .u32 0, .slice none 0 0, .slice none 0 0] 37)) w.heap.size (.int .u32 0) (.slice none 0 0) (.slice none 0 0) := heap_alloc_new w _
  have HG := Rg.fill hg (.int .u32 0) (.slice none 0 0) (.slice none 0 0)
  have HFN : Below w.heap.size w (fill3 (w.alloc (.cells #[.int .u32 0, .slice none 0 0, .slice none 0 0] 37)) w.heap.size (.int .u32 0) (.slice none 0 0) (.slice none 0 0)) :=
    ((hAl.setCell (Nat.le_refl _) _).setCell (Nat.le_refl _) _).setCell (Nat.le_refl _) _
  obtain ⟨g0, g1, g2, f0, f1, f2⟩ := Rg.cells hg
  have hA1 := (hAl.cell (World.block_lt_of_cell? _ _ hA)).trans hA
  have hF1 := (hAl.cell (World.block_lt_of_cell? _ _ hF)).trans hF
  have HFN2 := Lib.hid HFN
  have hA2 := (HFN.cell (World.block_lt_of_cell? _ _ hA)).trans hA
  have hF2 := (HFN.cell (World.block_lt_of_cell? _ _ hF)).trans hF
  clear hAl hA hF hg
  go_enter Tryd.func15, Tryd.ntmps15
  by_cases h4 : pc % 4 = 0
  · have h5 : 16384 ≤ pc := by omega
    go_wp2_with fail
    generalize w.alloc (.cells #[.int .u32 0, .slice none 0 0, .slice none 0 0] 37) = w0 at *
    go_region_with fail
    all_goals
      go_wp2
      first
      | change bodyPost _ _ _ _ _ (fill3 w0 w.heap.size (.int .u32 0) (.slice none 0 0) (.slice none 0 0))
      | change bodyPost _ _ _ _ _ (World.drew (fill3 w0 w.heap.size (.int .u32 0) (.slice none 0 0) (.slice none 0 0)))
      clear g0 g1 g2 f0 f1 f2 hA1 hF1 hA2 hF2 HFN
      generalize fill3 w0 w.heap.size (.int .u32 0) (.slice none 0 0) (.slice none 0 0) = W5 at *
      obtain ⟨q0, q1, q2, _⟩ := Rg.cells HG
      first
      | exact bodyPost_ret (v := .tuple #[.agg #[.int .u32 0, .slice none 0 0, .slice none 0 0], .iface tF pF]) (by simp [results, Tryd.results15, go_sem, q0, q1, q2]) rfl ⟨HFN2.out, _, _, rfl⟩
      | exact bodyPost_ret (v := .tuple #[.agg #[.int .u32 0, .slice none 0 0, .slice none 0 0], .iface tF pF]) (by simp [results, Tryd.results15, go_sem, q0, q1, q2]) rfl ⟨HFN2.out.drew, _, _, rfl⟩
  · clear hp
    go_wp2_with fail
    generalize w.alloc (.cells #[.int .u32 0, .slice none 0 0, .slice none 0 0] 37) = w0 at *
    go_region_with fail
    all_goals
      go_wp2
      first
      | change bodyPost _ _ _ _ _ (fill3 w0 w.heap.size (.int .u32 0) (.slice none 0 0) (.slice none 0 0))
      | change bodyPost _ _ _ _ _ (World.drew (fill3 w0 w.heap.size (.int .u32 0) (.slice none 0 0) (.slice none 0 0)))
      clear g0 g1 g2 f0 f1 f2 hA1 hF1 hA2 hF2 HFN
      generalize fill3 w0 w.heap.size (.int .u32 0) (.slice none 0 0) (.slice none 0 0) = W5 at *
      obtain ⟨q0, q1, q2, _⟩ := Rg.cells HG
      first
      | exact bodyPost_ret (v := .tuple #[.agg #[.int .u32 0, .slice none 0 0, .slice none 0 0], .iface tA pA]) (by simp [results, Tryd.results15, go_sem, q0, q1, q2]) rfl ⟨HFN2.out, _, _, rfl⟩
      | exact bodyPost_ret (v := .tuple #[.agg #[.int .u32 0, .slice none 0 0, .slice none 0 0], .iface tA pA]) (by simp [results, Tryd.results15, go_sem, q0, q1, q2]) rfl ⟨HFN2.out.drew, _, _, rfl⟩
theorem len_ok (pc : Int) (a : Option Addr) (n cap : Nat) (hn : n ≤ 100) (vp : Value) (w : World) :
    Calls Tryd.prog 33 #[.agg #[.int .u32 pc, .slice a n cap, vp]] w fun e w' => e = .returned (.int .i64 (4 * (n : Int))) ∧ Below w.heap.size w w' := by
  have hB := (Below.refl w.heap.size w).alloc (Nat.le_refl _) (.cells #[.int .u32 pc, .slice a n cap, vp] 37)
  go_enter Tryd.func33, Tryd.ntmps33
  go_wp2_with fail
  go_ret
  exact ⟨rfl, hB⟩
theorem ends_on (pc : Int) (a : Option Addr) (cap : Nat) (vp : Value) (w : World) :
    Calls Tryd.prog 34 #[.agg #[.int .u32 pc, .slice a 1 cap, vp]] w fun e w' => e = .returned (.string ⟨#[111, 110]⟩) ∧ Below w.heap.size w w' := by
  have hB := (Below.refl w.heap.size w).alloc (Nat.le_refl _) (.cells #[.int .u32 pc, .slice a 1 cap, vp] 37)
  go_enter Tryd.func34, Tryd.ntmps34
  go_wp2_with fail
  go_ret
  exact ⟨rfl, hB⟩
theorem same_ok (g1 g2 n c1 c2 : Nat) (hn : n ≤ 100) (hc1 : n ≤ c1) (hc2 : n ≤ c2) (L : List InsN) (hL : L.length = n) (w : World) (h1 : InsRow w g1 L) (h2 : InsRow w g2 L) (hg1 : g1 < w.heap.size) (hg2 : g2 < w.heap.size) :
    Calls Tryd.prog 18 #[.slice (some ⟨g2, 0, none⟩) n c2, .slice (some ⟨g1, 0, none⟩) n c1] w fun e w' => e = .returned (.bool true) ∧ Below w.heap.size w w' := by
  have HA := Lib.hid h1
  have HC := Lib.hid h2
  clear h1 h2
  go_enter Tryd.func18, Tryd.ntmps18
  go_wp2_with fail
  go_loopw [5] (fun v wr => ∃ k : Nat, k ≤ n ∧ v = .int .i64 (k : Int) ∧ Below w.heap.size w wr) (fun v _ => n - (intOf v).toNat)
  case atStart => exact ⟨0, Nat.zero_le _, rfl, Below.refl _ _⟩
  case round =>
    obtain ⟨k, hk, rfl, hb⟩ := hrel
    by_cases hlt : k < n
    · have hj : k < L.length := by omega
      obtain ⟨x0, x1, x2, x3, x4⟩ := InsRow.cells (HA.out.below hb hg1) k hj
      obtain ⟨y0, y1, y2, y3, y4⟩ := InsRow.cells (HC.out.below hb hg2) k hj
      have HB := Lib.hid hb
      clear hb
      generalize L[k] = i at *
      go_wp2_with fail
      go_quiet (fail)
      go_wp2
      go_roundw
      case rel => exact ⟨k + 1, by omega, by go_num, below_drewN HB.out _⟩
      case measure => simp [intOf]; omega
    · go_wp2
      go_ret
      exact ⟨rfl, hb⟩
end Go.Proofs.YtnppegldebocmaaDoor
