/- The walks of region.at, (*former).next, (*former).full. Conditions: as each theorem states. -/
import Derived.Test.YtnppegldebocmaaDoorRamW
import Derived.Test.YtnppegldebocmaaDoorText
import Derived.Deep.AppendLies
import Derived.Deep.RegionLaw
namespace Go.Proofs.YtnppegldebocmaaDoor
open Go.RowKit
set_option linter.unusedVariables false
theorem load_far (r : Nat) (a : Int) (h0 : 0 ≤ a) (h4 : a % 4 = 0) (h1 : 16384 ≤ a) (h2 : a < 4294967296) (t : TypeId) (p : Value) (w : World) (hF : w.cell? ⟨3, 0, none⟩ = some (.iface t p)) :
    Calls Tryd.prog 57 #[.pointer (some ⟨r, 0, none⟩), .int .u32 a, .int .i64 4, .bool false] w fun e w' => e = .returned (.tuple #[.int .u32 0, .iface t p]) ∧ w = w' := by
  have HRK := Lib.hid (right_far a h0 h4 h1 h2 _ w hF)
  clear hF h1
  go_enter Tryd.func57, Tryd.ntmps57
  go_wp2_with (go_at_call 68; (with_reducible refine HRK.out.mono ?_); rintro e w1 ⟨rfl, rfl⟩)
  go_ret2
  exact ⟨rfl, rfl⟩
theorem Five.drew {w : World} {b : Nat} {t : TypeId} {a0 a1 a2 a3 a4 : Value} (h : Five w b t a0 a1 a2 a3 a4) : Five w.drew b t a0 a1 a2 a3 a4 := h
theorem decode_keep (x : Int) (h0 : 0 ≤ x) (h1 : x < 4294967296) (w : World) (b : Nat) (a0 a1 a2 a3 a4 : Value) (t : TypeId) (hF : Five w b t a0 a1 a2 a3 a4) :
    Calls Tryd.prog 9 #[.int .u32 x] w fun e w' => e = .returned (insV (decZ x)) ∧ Below w.heap.size w w' ∧ Five w' b t a0 a1 a2 a3 a4 :=
  (decode_any x h0 h1 w).mono fun e w' h => ⟨h.1, h.2, hF.below h.2 hF.lt⟩
set_option maxHeartbeats 2000000 in
theorem at_gen (r : Nat) (a x : Int) (b : Bool) (er : Value) (hx0 : 0 ≤ x) (hx1 : x < 4294967296) (w : World) (hb : (b = true ∧ er = .nilIface) ∨ (b = false ∧ ∃ t p, er = .iface t p))
    (HL : Hid (∀ W, Below w.heap.size w W → Calls Tryd.prog 57 #[.pointer (some ⟨r, 0, none⟩), .int .u32 a, .int .i64 4, .bool false] W fun e w' => e = .returned (.tuple #[.int .u32 x, er]) ∧ W = w')) :
    Calls Tryd.prog 35 #[.pointer (some ⟨r, 0, none⟩), .int .u32 a] w fun e w' => e = .returned (.tuple #[insV (decZ x), .bool b]) ∧ Below w.heap.size w w' := by
  have hF := Five.new w (.int .i64 0) (.int .i64 0) (.int .i64 0) (.int .i64 0) (.int .u32 0) 25
  have hal := (Below.refl w.heap.size w).alloc (Nat.le_refl _) (.cells #[.int .i64 0, .int .i64 0, .int .i64 0, .int .i64 0, .int .u32 0] 25)
  have HAL := Lib.hid hal
  go_enter Tryd.func35, Tryd.ntmps35
  go_wp2_with fail
  refine (HL.out _ hal).mono ?_
  rintro e w1 ⟨rfl, rfl⟩
  generalize w.alloc (.cells #[.int .i64 0, .int .i64 0, .int .i64 0, .int .i64 0, .int .u32 0] 25) = w1 at *
  clear hal
  have HD := Lib.hid (fun W (h : Five W w.heap.size 25 (.int .i64 0) (.int .i64 0) (.int .i64 0) (.int .i64 0) (.int .u32 0)) => decode_keep x hx0 hx1 W _ _ _ _ _ _ _ h)
  rcases hb with ⟨rfl, rfl⟩ | ⟨rfl, t, p, rfl⟩
  all_goals
    go_wp2_with fail
    go_region_with ((go_at_call 9; refine (HD.out _ (by first | assumption | exact Five.drew (by assumption))).mono ?_; rintro e w2 ⟨rfl, hb2, hF2⟩; obtain ⟨c0, c1, c2, c3, c4⟩ := hF2.cells; obtain ⟨f0, f1, f2, f3, f4⟩ := hF2.free))
    all_goals
      go_wp2
      have hB2 : Below w.heap.size w w2 := by first | exact HAL.out.trans (Below.mono (by assumption) HAL.out.size) | exact HAL.out.drew.trans (Below.mono (by assumption) HAL.out.size)
      have hF2 : Five w2 w.heap.size 25 (.int .i64 0) (.int .i64 0) (.int .i64 0) (.int .i64 0) (.int .u32 0) := by assumption
      have HFin := hF2.fill (.int .i64 (decZ x).op) (.int .i64 (decZ x).s) (.int .i64 (decZ x).t) (.int .i64 (decZ x).d) (.int .u32 (decZ x).imm)
      have HBF := below_fill hB2 (Nat.le_refl _) (.int .i64 (decZ x).op) (.int .i64 (decZ x).s) (.int .i64 (decZ x).t) (.int .i64 (decZ x).d) (.int .u32 (decZ x).imm)
      change bodyPost _ _ _ _ _ (fill5 w2 w.heap.size (.int .i64 (decZ x).op) (.int .i64 (decZ x).s) (.int .i64 (decZ x).t) (.int .i64 (decZ x).d) (.int .u32 (decZ x).imm))
      clear c0 c1 c2 c3 c4 f0 f1 f2 f3 f4 hF2
      generalize fill5 w2 w.heap.size (.int .i64 (decZ x).op) (.int .i64 (decZ x).s) (.int .i64 (decZ x).t) (.int .i64 (decZ x).d) (.int .u32 (decZ x).imm) = W5 at *
      obtain ⟨q0, q1, q2, q3, q4⟩ := HFin.cells
      first
      | exact bodyPost_ret (v := .tuple #[insV (decZ x), .bool true]) (by simp [results, Tryd.results35, go_sem, q0, q1, q2, q3, q4]) rfl ⟨rfl, HBF⟩
      | exact bodyPost_ret (v := .tuple #[insV (decZ x), .bool false]) (by simp [results, Tryd.results35, go_sem, q0, q1, q2, q3, q4]) rfl ⟨rfl, HBF⟩
/-- Memory's words. -/
structure RamW (w : World) (r bb : Nat) (W : Nat → Int) : Prop where
  mem : ∃ f, RamAt w r bb f ∧ (∀ i, 0 ≤ f i ∧ f i < 256) ∧ ∀ k, k < 4096 → accF f (4 * k) 4 = W k
theorem RamW.below {w w' : World} {r bb B : Nat} {W : Nat → Int} (h : RamW w r bb W) (hb : Below B w w') (hr : r < B) (hbb : bb < B) : RamW w' r bb W := by
  obtain ⟨f, h1, h2, h3⟩ := h.mem
  exact ⟨f, h1.below hb hr hbb, h2, h3⟩
theorem RamW.lt {w : World} {r bb : Nat} {W : Nat → Int} (h : RamW w r bb W) : r < w.heap.size ∧ bb < w.heap.size := by
  obtain ⟨f, h1, h2, h3⟩ := h.mem
  obtain ⟨_, _, hk⟩ := h1.blk
  exact ⟨(Array.getElem?_eq_some_iff.1 hk).1, h1.lt⟩
theorem RamW.range {w : World} {r bb : Nat} {W : Nat → Int} (h : RamW w r bb W) (k : Nat) (hk : k < 4096) : 0 ≤ W k ∧ W k < 4294967296 := by
  obtain ⟨f, h1, h2, h3⟩ := h.mem
  have := acc_range f h2 (4 * k) 4 (by omega)
  rw [h3 k hk] at this
  exact ⟨this.1, Int.lt_of_lt_of_le this.2 (by decide)⟩
theorem at_word (r bb : Nat) (W : Nat → Int) (k : Nat) (hk : k < 4096) (w : World) (hR : RamW w r bb W) :
    Calls Tryd.prog 35 #[.pointer (some ⟨r, 0, none⟩), .int .u32 (4 * (k : Int))] w fun e w' => e = .returned (.tuple #[insV (decZ (W k)), .bool true]) ∧ Below w.heap.size w w' := by
  obtain ⟨h0, h1⟩ := hR.range k hk
  obtain ⟨hr, hbb⟩ := hR.lt
  obtain ⟨f, g1, g2, g3⟩ := hR.mem
  refine at_gen r _ (W k) true .nilIface h0 h1 w (Or.inl ⟨rfl, rfl⟩) fun Q hQ => ?_
  have := load_ok r bb f g2 (4 * k) (by omega) (by omega) Q (g1.below hQ hr hbb)
  rw [g3 k hk, show ((4 * k : Nat) : Int) = 4 * (k : Int) by omega] at this
  exact this
theorem at_out (r : Nat) (k : Nat) (hk : 4096 ≤ k) (hk2 : k < 5000) (t : TypeId) (p : Value) (w : World) (hF : w.cell? ⟨3, 0, none⟩ = some (.iface t p)) :
    Calls Tryd.prog 35 #[.pointer (some ⟨r, 0, none⟩), .int .u32 (4 * (k : Int))] w fun e w' => e = .returned (.tuple #[insV (decZ 0), .bool false]) ∧ Below w.heap.size w w' :=
  at_gen r _ 0 false (.iface t p) (by decide) (by decide) w (Or.inr ⟨rfl, t, p, rfl⟩) fun Q hQ => load_far r _ (by omega) (by omega) (by omega) (by omega) t p Q ((hQ.cell (World.block_lt_of_cell? w _ hF)).trans hF)
abbrev insC (i : InsN) : List Value := [.int .i64 i.op, .int .i64 i.s, .int .i64 i.t, .int .i64 i.d, .int .u32 i.imm]
/-- The former's block fb: what is taken so far, and how many stores. -/
structure FW (B : Nat) (w0 wr : World) (fb r : Nat) (most : Int) (k0 : Nat) (l : List InsN) (st : Int) (q : Nat) : Prop where
  blk : ∃ (vi vp : Value) (ps : List Int), wr.heap[fb]? = some (.cells #[.pointer (some ⟨r, 0, none⟩), .int .i64 most, .int .u32 (4 * (k0 : Int)), vi, vp, .int .i64 st] 75 (0, 0)) ∧
    wr.ownsRow B 25 5 vi l.length (l.flatMap insC) ∧ wr.ownsRow B 3 1 vp ps.length (ps.map (.int .i64)) ∧ ps.length ≤ q
  below : Below B w0 wr
  lo : B ≤ fb
  base : B ≤ wr.heap.size
theorem FW.trans {B : Nat} {w0 wr w' : World} {fb r : Nat} {most : Int} {k0 : Nat} {l : List InsN} {st : Int} {q : Nat} (h : FW B w0 wr fb r most k0 l st q) (hb : Below wr.heap.size wr w') : FW B w0 w' fb r most k0 l st q := by
  obtain ⟨vi, vp, ps, h1, h2, h3, h4⟩ := h.blk
  exact ⟨⟨vi, vp, ps, (hb.block fb (Array.getElem?_eq_some_iff.1 h1).1).trans h1, own_below h2 hb, own_below h3 hb, h4⟩, h.below.trans (hb.mono h.base), h.lo, Nat.le_trans h.base hb.size⟩
theorem sliceLen {w : World} {base size n : Nat} {e : TypeId} {v : Value} {xs : List Value} (h : w.ownsRow base e size v n xs) : ∃ (a : Option Addr) (cap : Nat), v = .slice a n cap := by
  rcases Joins.ownsRow_forms h with ⟨h1, h2⟩ | ⟨g, cap, h1⟩
  · exact ⟨none, 0, by rw [h1, h2]⟩
  · exact ⟨_, cap, h1⟩
set_option maxHeartbeats 1000000 in
theorem next_exact {B q : Nat} {w0 : World} (fb r : Nat) (most : Int) (k0 : Nat) (hk0 : (k0 : Int) < 4096) (l : List InsN) (hl : (l.length : Int) ≤ 30) (st : Int) (w : World) (h : FW B w0 w fb r most k0 l st q) :
    Calls Tryd.prog 36 #[.pointer (some ⟨fb, 0, none⟩)] w fun e w' => e = .returned (.int .u32 (4 * ((k0 + l.length : Nat) : Int))) ∧ ∃ n, w.drewN n = w' := by
  obtain ⟨vi, vp, ps, h1, h2, h3, h4⟩ := h.blk
  obtain ⟨a, cap, rfl⟩ := sliceLen h2
  have c2 : w.cell? ⟨fb, 2, none⟩ = some (.int .u32 (4 * (k0 : Int))) := by simp [World.cell?, h1]
  have c3 : w.cell? ⟨fb, 3, none⟩ = some (.slice a l.length cap) := by simp [World.cell?, h1]
  clear h h1 h2 h3 h4
  generalize l.length = n at *
  go_enter Tryd.func36, Tryd.ntmps36
  go_wp2_with fail
  go_quiet (fail)
  go_wp2
  go_ret
  exact ⟨congrArg (fun z => Ending.returned (.int .u32 z)) (by omega), nq, rfl⟩
theorem next_ok {B q : Nat} {w0 : World} (fb r : Nat) (most : Int) (k0 : Nat) (hk0 : (k0 : Int) < 4096) (l : List InsN) (hl : (l.length : Int) ≤ 30) (st : Int) (w : World) (h : FW B w0 w fb r most k0 l st q) :
    Calls Tryd.prog 36 #[.pointer (some ⟨fb, 0, none⟩)] w fun e w' => e = .returned (.int .u32 (4 * ((k0 + l.length : Nat) : Int))) ∧ Below w.heap.size w w' :=
  (next_exact fb r most k0 hk0 l hl st w h).mono fun e w' g => ⟨g.1, by obtain ⟨n, hn⟩ := g.2; rw [← hn]; exact below_drewN (Below.refl _ _) _⟩
def storeL : List UInt8 := [115, 116, 111, 114, 101]
theorem kind_not (n : Int) (l : List UInt8) (h : kindOfB n ≠ l) : ((bsl (kindOfB n)).toList == l) = false := by
  rw [beq_eq_false_iff_ne, bsl_list]
  exact h
set_option maxHeartbeats 1000000 in
theorem full_no {B q : Nat} {w0 : World} (fb r : Nat) (most : Int) (k0 : Nat) (l : List InsN) (st : Int) (i : InsN) (hk : kindOfB i.op ≠ storeL) (w : World) (h : FW B w0 w fb r most k0 l st q) :
    Calls Tryd.prog 37 #[.pointer (some ⟨fb, 0, none⟩), insV i] w fun e w' => e = .returned (.bool false) ∧ Below w.heap.size w w' := by
  have hs := kind_not i.op storeL hk
  have HK := Lib.hid (fun W => kindOf_any i.op W)
  generalize bsl (kindOfB i.op) = s at *
  unfold storeL at hs
  have HB := Lib.hid ((Below.refl w.heap.size w).alloc (Nat.le_refl _) (.cells #[.int .i64 i.op, .int .i64 i.s, .int .i64 i.t, .int .i64 i.d, .int .u32 i.imm] 25))
  clear hk h
  go_enter Tryd.func37, Tryd.ntmps37
  go_wp2_with (go_at_call 10; (with_reducible refine (HK.out _).mono ?_); rintro e w1 ⟨rfl, hb1⟩)
  go_ret
  exact ⟨rfl, HB.out.trans (hb1.mono HB.out.size)⟩
set_option maxHeartbeats 1000000 in
theorem full_st {B q : Nat} {w0 : World} (fb r : Nat) (most : Int) (k0 : Nat) (l : List InsN) (st : Int) (i : InsN) (b : Bool) (hb : (b = true ∧ 8 ≤ st) ∨ (b = false ∧ st < 8)) (hk : kindOfB i.op = storeL) (w : World) (h : FW B w0 w fb r most k0 l st q) :
    Calls Tryd.prog 37 #[.pointer (some ⟨fb, 0, none⟩), insV i] w fun e w' => e = .returned (.bool b) ∧ Below w.heap.size w w' := by
  have HK : Hid (∀ W, Calls Tryd.prog 10 #[.int .i64 i.op] W fun e w' => e = .returned (.string ⟨#[115, 116, 111, 114, 101]⟩) ∧ Below W.heap.size W w') := fun W => by
    have := kindOf_any i.op W
    rw [hk] at this
    exact this
  have hal := ((Below.refl w.heap.size w).alloc (Nat.le_refl _) (.cells #[.int .i64 i.op, .int .i64 i.s, .int .i64 i.t, .int .i64 i.d, .int .u32 i.imm] 25))
  have HB := Lib.hid hal
  have HF := Lib.hid (h.trans hal)
  clear hk h hal
  go_enter Tryd.func37, Tryd.ntmps37
  go_wp2_with fail
  refine (HK.out _).mono ?_
  rintro e w1 ⟨rfl, hb1⟩
  obtain ⟨vi, vp, ps, h1, _, _, _⟩ := (HF.out.trans hb1).blk
  have c5 : w1.cell? ⟨fb, 5, none⟩ = some (.int .i64 st) := by simp [World.cell?, h1]
  clear h1
  rcases hb with ⟨rfl, hst⟩ | ⟨rfl, hst⟩
  · go_wp2
    go_ret
    exact ⟨rfl, HB.out.trans (hb1.mono HB.out.size)⟩
  · go_wp2
    go_ret
    exact ⟨congrArg (fun z => Ending.returned (.bool z)) (decide_eq_false (by omega)), HB.out.trans (hb1.mono HB.out.size)⟩
end Go.Proofs.YtnppegldebocmaaDoor
