/- The plain law of lowering, fourth part: a region's code ends as its instructions do. No program in sight. The walks of ir's lower: do, sum, set, copy. The walks of ir's Has, Sum, Div, register, Contains, at any kind. The walk of code.Encode. Conditions: as each theorem states. -/
import Derived.Test.YtadoaldnjnkhgaaGreatDoorQ04
import Derived.Test.YtadoaldnjnkhgaaGreatDoorQ01
set_option linter.unusedVariables false
set_option linter.unusedSimpArgs false
namespace Go.Proofs.YtadoaldnjnkhgaaGreatDoor
open Go.RowKit
def EndsAs (watch : Nat → Bool) (l : List InsN) (ops : List OpN) (X : Regs) (g : GS) (ws : List Int) : Prop :=
  match stepsZ watch l g ws with
  | none => ∃ k, evalZ watch ops X ws = .trap k
  | some (g', ws') => ∃ X', evalZ watch ops X ws = .leave g'.pc X' ws' ∧ Agree X' g'.r g'.hi g'.lo ∧ g'.r 0 = 0 ∧ g'.next = (g'.pc + 4) % 4294967296 ∧ g'.slot = false
theorem ends_plain {watch : Nat → Bool} (l : List InsN) (hl : ∀ i ∈ l, plainOp i.o = true ∧ InsOK i) (X : Regs) (g : GS) (ws : List Int) (hA : Agree X g.r g.hi g.lo) (h0 : g.r 0 = 0) (hs : g.slot = false) (p0 : 0 ≤ g.pc) (p1 : g.pc < 4294967296) (hn : g.next = (g.pc + 4) % 4294967296) (m : Nat) :
    EndsAs watch l (lowList l 0 ++ [⟨.out, 0, 0, 0, (g.pc + 4 * (l.length : Int)) % 4294967296, m⟩]) X g ws := by
  have h := low_pre (watch := watch) [⟨.out, 0, 0, 0, (g.pc + 4 * (l.length : Int)) % 4294967296, m⟩] l 0 X g ws hl hA h0 hs p0 p1 hn
  unfold EndsAs stepsZ
  cases hw : walkZ watch l g ws false with
  | none => rw [hw] at h; exact h
  | some y =>
    obtain ⟨g', ws', h'⟩ := y
    rw [hw] at h
    cases h' with
    | true => exact h
    | false =>
      simp only at h ⊢
      obtain ⟨X', a1, a2, a3, a4, a5, a6, a7⟩ := h
      exact ⟨X', by rw [a7, a4]; rfl, a1, a3, a5, a6⟩
theorem low_br {watch : Nat → Bool} {op s t d n : Nat} {m pc : Int} (hop : brOp op = true) (hs : s < 32) (ht : t < 32) (hd : d < 32) (os : List OpN) {X : Regs} {g : GS} {ws : List Int} (hA : Agree X g.r g.hi g.lo) (h0 : g.r 0 = 0) (hg : GSOK g) (hp : g.pc = (pc + 4 * (n : Int)) % 4294967296) :
    ∃ X', Agree X' (updR (brZ op s t d m g.r g.pc).1 0 0) g.hi g.lo ∧ evalZ watch (lowBr pc op s t d n ++ os) X ws = evalZ watch os X' ws ∧
      ∀ Y : Regs, (∀ k, 34 < k → Y k = X' k) → ∀ ws' k', evalZ watch (lowLv g.pc op m k') Y ws' = .leave (((brZ op s t d m g.r g.pc).2).getD ((g.pc + 8) % 4294967296)) Y ws' := by
  have xs := hA.at0 h0 hs
  have xt := hA.at0 h0 ht
  obtain ⟨s0, s1⟩ := hg.r s
  obtain ⟨t0, t1⟩ := hg.r t
  have hm : op = 7 ∨ op = 8 ∨ op = 29 ∨ op = 30 ∨ op = 31 ∨ op = 32 ∨ op = 33 ∨ op = 34 := by
    unfold brOp at hop
    simpa using hop
  have near : ∀ q : Int, (q + 4 + wideS m * 4) % 4294967296 = ((q + 4) % 4294967296 + 4 * wrap32 (wideS m)) % 4294967296 := by
    intro q
    have h1 : wrap32 (wideS m) % 4294967296 = wideS m % 4294967296 := wrap_mod _
    omega
  -- a conditional branch: its last part
  have tail : ∀ (c : Prop) [Decidable c] (Y : Regs), (Y 36 ≠ 0 ↔ c) → ∀ (q : Int) ws' k', evalZ watch [⟨.cond, 0, 36, 0, (q + 4 + wideS m * 4) % 4294967296, k'⟩, ⟨.out, 0, 0, 0, (q + 8) % 4294967296, k'⟩] Y ws' =
      .leave (((if c then some (((q + 4) % 4294967296 + 4 * wrap32 (wideS m)) % 4294967296) else none) : Option Int).getD ((q + 8) % 4294967296)) Y ws' := by
    intro c _ Y hY q ws' k'
    show (if Y 36 ≠ 0 then _ else _) = _
    by_cases hc : c
    · rw [if_pos (hY.2 hc), if_pos hc, near]; rfl
    · rw [if_neg (fun h => hc (hY.1 h)), if_neg hc]; rfl
  rcases hm with rfl | rfl | rfl | rfl | rfl | rfl | rfl | rfl
  · -- jr
    refine ⟨updR X 37 (X s), (hA.tmp (by decide) _).zero', rfl, fun Y hY ws' k' => ?_⟩
    show Ran.leave (Y 37) Y ws' = _
    rw [hY 37 (by decide), updR_same, xs]
    rfl
  · -- jalr
    obtain ⟨X', a1, a2, a3⟩ := goes_set (watch := watch) (n := n) (os := os) (ws := ws) hd (hA.tmp (show 33 < 37 by decide) (X s)) ((pc + 4 * (n : Int) + 8) % 4294967296)
    refine ⟨X', ?_, ?_, fun Y hY ws' k' => ?_⟩
    · have : (brZ 8 s t d m g.r g.pc).1 = updR g.r d ((pc + 4 * (n : Int) + 8) % 4294967296) := by
        show updR g.r d ((g.pc + 8) % 4294967296) = _
        rw [hp]
        congr 1
        omega
      rw [this]
      exact a1
    · rw [← a3]; rfl
    · show Ran.leave (Y 37) Y ws' = _
      rw [hY 37 (by decide), a2 37 (by decide), updR_same, xs]
      rfl
  · -- j
    exact ⟨X, hA.zero', rfl, fun Y hY ws' k' => rfl⟩
  · -- jal
    obtain ⟨X', a1, a2, a3⟩ := goes_set (watch := watch) (n := n) (os := os) (ws := ws) (show 31 < 32 by decide) hA ((pc + 4 * (n : Int) + 8) % 4294967296)
    refine ⟨X', ?_, ?_, fun Y hY ws' k' => rfl⟩
    · have : (brZ 30 s t d m g.r g.pc).1 = updR g.r 31 ((pc + 4 * (n : Int) + 8) % 4294967296) := by
        show updR g.r 31 ((g.pc + 8) % 4294967296) = _
        rw [hp]
        congr 1
        omega
      rw [this]
      exact a1
    · rw [← a3]; rfl
  · -- beq
    refine ⟨updR (updR (updR X 34 (bitsZ 6 (g.r s) (g.r t))) 35 1) 36 (bitZ (decide (bitsZ 6 (g.r s) (g.r t) < 1))), (((hA.tmp (by decide) _).tmp (by decide) _).tmp (by decide) _).zero', ?_, fun Y hY ws' k' => tail (g.r s = g.r t) Y ?_ g.pc ws' k'⟩
    · simp only [lowBr, List.cons_append, List.nil_append]
      rw [evalZ_sum rfl, Int.toNat_natCast, xs, xt]
      simp only [evalZ]
      rfl
    · rw [hY 36 (by decide), updR_same, ← xor_zero s0 s1 t0 t1]
      have hb := bitsZ_ok 6 (g.r s) (g.r t)
      obtain ⟨b0, b1⟩ := hb
      by_cases hz : bitsZ 6 (g.r s) (g.r t) < 1
      · rw [decide_eq_true hz]
        exact ⟨fun _ => by omega, fun _ => by decide⟩
      · rw [decide_eq_false hz]
        exact ⟨fun h => absurd rfl h, fun h => by omega⟩
  · -- bne
    refine ⟨updR X 36 (bitsZ 6 (g.r s) (g.r t)), (hA.tmp (by decide) _).zero', ?_, fun Y hY ws' k' => tail (g.r s ≠ g.r t) Y ?_ g.pc ws' k'⟩
    · simp only [lowBr, List.cons_append, List.nil_append]
      rw [evalZ_sum rfl, Int.toNat_natCast, xs, xt]
      rfl
    · rw [hY 36 (by decide), updR_same]
      exact not_congr (xor_zero s0 s1 t0 t1)
  · -- blez
    refine ⟨updR (updR X 35 1) 36 (bitZ (decide (wrap32 (g.r s) < 1))), ((hA.tmp (by decide) _).tmp (by decide) _).zero', ?_, fun Y hY ws' k' => tail (wrap32 (g.r s) ≤ 0) Y ?_ g.pc ws' k'⟩
    · simp only [lowBr, List.cons_append, List.nil_append]
      simp only [evalZ]
      rw [updR_other _ _ (show s ≠ 35 by omega), xs, show (35 : Int).toNat = 35 from rfl, updR_same]
      show evalZ watch os (updR (updR X 35 1) 36 (bitZ (decide (wrap32 (g.r s) < wrap32 1)))) ws = _
      rw [show wrap32 1 = 1 by unfold wrap32; omega]
    · rw [hY 36 (by decide), updR_same]
      by_cases hz : wrap32 (g.r s) < 1
      · rw [decide_eq_true hz]
        exact ⟨fun _ => by omega, fun _ => by decide⟩
      · rw [decide_eq_false hz]
        exact ⟨fun h => absurd rfl h, fun h => by omega⟩
  · -- bgtz
    refine ⟨updR X 36 (bitZ (decide (0 < wrap32 (g.r s)))), (hA.tmp (by decide) _).zero', ?_, fun Y hY ws' k' => tail (0 < wrap32 (g.r s)) Y ?_ g.pc ws' k'⟩
    · simp only [lowBr, List.cons_append, List.nil_append]
      rw [evalZ_sum rfl, Int.toNat_natCast, xs, hA.zero]
      show evalZ watch os (updR X 36 (bitZ (decide (wrap32 0 < wrap32 (g.r s))))) ws = _
      rw [show wrap32 0 = 0 by unfold wrap32; omega]
    · rw [hY 36 (by decide), updR_same]
      by_cases hz : 0 < wrap32 (g.r s)
      · rw [decide_eq_true hz]
        exact ⟨fun _ => hz, fun _ => by decide⟩
      · rw [decide_eq_false hz]
        exact ⟨fun h => absurd rfl h, fun h => absurd h hz⟩
theorem ends_branch {watch : Nat → Bool} (l : List InsN) (b x : InsN) (hl : ∀ i ∈ l, plainOp i.o = true ∧ InsOK i) (hb : brOp b.o = true) (hbk : InsOK b) (hx : plainOp x.o = true) (hxk : InsOK x) (him : ∀ i ∈ l, Reg32 i.imm) (X : Regs) (g : GS) (ws : List Int) (hg : GSOK g) (hws : WsOK ws) (hA : Agree X g.r g.hi g.lo) (h0 : g.r 0 = 0) (hs : g.slot = false) (p0 : 0 ≤ g.pc) (p1 : g.pc < 4294967296) (hn : g.next = (g.pc + 4) % 4294967296) :
    EndsAs watch (l ++ [b, x]) (lowList l 0 ++ (lowBr g.pc b.o b.s.toNat b.t.toNat b.d.toNat l.length ++ (lowIns x.o x.s.toNat x.t.toNat x.d.toNat x.imm (l.length + 1) ++ lowLv ((g.pc + 4 * (l.length : Int)) % 4294967296) b.o b.imm (l.length + 1)))) X g ws := by
  have h := low_pre (watch := watch) (lowBr g.pc b.o b.s.toNat b.t.toNat b.d.toNat l.length ++ (lowIns x.o x.s.toNat x.t.toNat x.d.toNat x.imm (l.length + 1) ++ lowLv ((g.pc + 4 * (l.length : Int)) % 4294967296) b.o b.imm (l.length + 1))) l 0 X g ws hl hA h0 hs p0 p1 hn
  unfold EndsAs stepsZ
  rw [walkZ_app]
  cases hw : walkZ watch l g ws false with
  | none => rw [hw] at h; exact h
  | some y =>
    obtain ⟨g1, ws1, m1⟩ := y
    rw [hw] at h
    have hok := walkZ_ok (watch := watch) l him g ws false _ hg hws hw
    cases m1 with
    | true =>
      simp only at h ⊢
      cases hw2 : walkZ watch [b, x] g1 ws1 true with
      | none => exact h
      | some z =>
        have := walkZ_mark _ g1 ws1 z hw2
        obtain ⟨z1, z2, z3⟩ := z
        simp only at this
        subst this
        exact h
    | false =>
      simp only at h hok ⊢
      obtain ⟨X1, a1, a2, a3, a4, a5, a6, a7⟩ := h
      rw [a7]
      obtain ⟨X2, c1, c2, c3⟩ := low_br (watch := watch) (ws := ws1) (m := b.imm) hb hbk.s hbk.t hbk.d (lowIns x.o x.s.toNat x.t.toNat x.d.toNat x.imm (l.length + 1) ++ lowLv ((g.pc + 4 * (l.length : Int)) % 4294967296) b.o b.imm (l.length + 1)) a1 a3 hok.1 a4
      rw [c2]
      have ho : oneZ watch b g1 ws1 false = some (⟨updR (brZ b.o b.s.toNat b.t.toNat b.d.toNat b.imm g1.r g1.pc).1 0 0, g1.hi, g1.lo, g1.next, ((brZ b.o b.s.toNat b.t.toNat b.d.toNat b.imm g1.r g1.pc).2).getD ((g1.next + 4) % 4294967296), true⟩, ws1, false) := by
        unfold oneZ
        rw [if_pos hb, if_neg (by rw [a6]; decide)]
      have h2 := low_one (watch := watch) (ws := ws1) hx hxk (l.length + 1) (lowLv ((g.pc + 4 * (l.length : Int)) % 4294967296) b.o b.imm (l.length + 1)) (X := X2) (g := ⟨updR (brZ b.o b.s.toNat b.t.toNat b.d.toNat b.imm g1.r g1.pc).1 0 0, g1.hi, g1.lo, g1.next, ((brZ b.o b.s.toNat b.t.toNat b.d.toNat b.imm g1.r g1.pc).2).getD ((g1.next + 4) % 4294967296), true⟩) c1 (updR_same (brZ b.o b.s.toNat b.t.toNat b.d.toNat b.imm g1.r g1.pc).1 0 0)
      simp only [walkZ, ho]
      cases ho2 : oneZ watch x ⟨updR (brZ b.o b.s.toNat b.t.toNat b.d.toNat b.imm g1.r g1.pc).1 0 0, g1.hi, g1.lo, g1.next, ((brZ b.o b.s.toNat b.t.toNat b.d.toNat b.imm g1.r g1.pc).2).getD ((g1.next + 4) % 4294967296), true⟩ ws1 false with
      | none => rw [ho2] at h2; exact h2
      | some z =>
        obtain ⟨g3, ws3, m3⟩ := z
        rw [ho2] at h2
        cases m3 with
        | true => exact h2
        | false =>
          simp only at h2 ⊢
          obtain ⟨X3, d1, d2, d3, d4, d5, d6, d7⟩ := h2
          have e8 : (g1.next + 4) % 4294967296 = (g1.pc + 8) % 4294967296 := by rw [a5]; omega
          refine ⟨X3, ?_, d1, d3, by rw [d5, d4], d6⟩
          rw [d7, ← a4, c3 X3 d2, d4, e8]
end Go.Proofs.YtadoaldnjnkhgaaGreatDoor
namespace Go.Proofs.YtadoaldnjnkhgaaGreatDoor
open Go.RowKit
def OpK.text : OpK → List UInt8
  | .set => [115, 101, 116] | .copy => [99, 111, 112, 121] | .overP => [111, 118, 101, 114, 43] | .overM => [111, 118, 101, 114, 45] | .load => [108, 111, 97, 100] | .store => [115, 116, 111, 114, 101]
  | .cond => [105, 102] | .out => [111, 117, 116] | .outr => [111, 117, 116, 114] | .add => [97, 100, 100] | .sub => [115, 117, 98] | .and => [97, 110, 100] | .or => [111, 114] | .xor => [120, 111, 114] | .nor => [110, 111, 114]
  | .slt => [115, 108, 116] | .sltu => [115, 108, 116, 117] | .shl => [115, 104, 108] | .shr => [115, 104, 114] | .sar => [115, 97, 114] | .mul => [109, 117, 108] | .mulh => [109, 117, 108, 104] | .mulhu => [109, 117, 108, 104, 117]
  | .quo => [113, 117, 111] | .rem => [114, 101, 109] | .quou => [113, 117, 111, 117] | .remu => [114, 101, 109, 117]
def opC (o : OpN) : List Value := [.string (bsl o.kind.text), .int .i64 (o.d : Int), .int .i64 (o.a : Int), .int .i64 o.b, .int .u32 o.imm, .int .i64 (o.at' : Int)]
theorem Tryz.infoO : (Tryz.prog.info? 86).map (fun i => (i.zero, i.size, i.bytes)) = some (some (.agg #[.string ByteArray.empty, .int .i64 0, .int .i64 0, .int .i64 0, .int .u32 0, .int .i64 0]), 6, 56) := by kernel_rfl
theorem six_news (w : World) (a b c d e f : Value) (t : TypeId) : ∀ j v, [a, b, c, d, e, f][j]? = some v → (w.alloc (.cells #[a, b, c, d, e, f] t)).cell? ((⟨w.heap.size, 0, none⟩ : Addr).add j) = some v := by
  intro j u hj
  match j, hj with
  | 0, hj => simp at hj; subst hj; simp [Addr.add]
  | 1, hj => simp at hj; subst hj; simp [Addr.add]
  | 2, hj => simp at hj; subst hj; simp [Addr.add]
  | 3, hj => simp at hj; subst hj; simp [Addr.add]
  | 4, hj => simp at hj; subst hj; simp [Addr.add]
  | 5, hj => simp at hj; subst hj; simp [Addr.add]
  | j + 6, hj => simp at hj
theorem opC_one (o : OpN) : ∀ u ∈ opC o, u.oneCell' = true := by
  intro u hu
  simp only [opC, List.mem_cons, List.not_mem_nil, or_false] at hu
  rcases hu with rfl | rfl | rfl | rfl | rfl | rfl <;> rfl
abbrev LB (w : World) (lb : Nat) (pc : Int) (n : Nat) (ov : Value) : Prop := w.heap[lb]? = some (.cells #[.int .u32 pc, .int .i64 (n : Int), ov] 71 (0, 0))
theorem LB.cells {w : World} {lb : Nat} {pc : Int} {n : Nat} {ov : Value} (h : LB w lb pc n ov) : w.cell? ⟨lb, 0, none⟩ = some (.int .u32 pc) ∧ w.cell? ⟨lb, 1, none⟩ = some (.int .i64 (n : Int)) ∧ w.cell? ⟨lb, 2, none⟩ = some ov ∧ w.frozen? ⟨lb, 1, none⟩ = false ∧ w.frozen? ⟨lb, 2, none⟩ = false := by
  unfold LB at h
  refine ⟨?_, ?_, ?_, ?_, ?_⟩ <;> simp [World.cell?, World.frozen?, h]
structure LwW (w0 w : World) (lb : Nat) (pc : Int) (n : Nat) (ov : Value) (ops : List OpN) : Prop where
  blk : LB w lb pc n ov
  ops : w.ownsRow w0.heap.size 86 6 ov ops.length (ops.flatMap opC)
  below : Below w0.heap.size w0 w
  lo : w0.heap.size ≤ lb
  size : w0.heap.size ≤ w.heap.size
theorem LwW.trans {w0 w w' : World} {lb : Nat} {pc : Int} {n : Nat} {ov : Value} {ops : List OpN} (h : LwW w0 w lb pc n ov ops) (hb : Below w.heap.size w w') : LwW w0 w' lb pc n ov ops where
  blk := (hb.block lb (Array.getElem?_eq_some_iff.1 h.blk).1).trans h.blk
  ops := own_below h.ops hb
  below := h.below.trans (hb.mono h.size)
  lo := h.lo
  size := Nat.le_trans h.size hb.size
theorem LwW.op {w0 w w4 : World} {lb : Nat} {pc : Int} {n : Nat} {ov ov' : Value} {ops : List OpN} {o : OpN} (h : LwW w0 w lb pc n ov ops)
    (hown : w4.ownsRow w0.heap.size 86 6 ov' (ops.length + 1) (ops.flatMap opC ++ opC o)) (hg : w.grownBy w4 ov.ownBlock) : LwW w0 (w4.setCell ⟨lb, 2, none⟩ ov') lb pc n ov' (ops ++ [o]) ∧ LB w4 lb pc n ov := by
  have hlb : w4.heap[lb]? = _ := (hg.block lb (Array.getElem?_eq_some_iff.1 h.blk).1 (own_ne h.ops h.blk (by decide))).trans h.blk
  have hz : (w4.setCell ⟨lb, 2, none⟩ ov').heap.size = w4.heap.size := by simp
  refine ⟨⟨Joins.block_setCell (i := 2) hlb ov', ?_, (h.below.grown hg h.size (fun k hk => (h.ops.lt k hk).1)).setCell h.lo _, h.lo, by rw [hz]; exact Nat.le_trans h.size hg.size⟩, hlb⟩
  rw [List.length_append, List.flatMap_append]
  have := own_block (w' := w4.setCell ⟨lb, 2, none⟩ ov') hown (fun g hg2 => setCell_other w4 lb 2 g ov' (fun e2 => own_ne hown hlb (by decide) (by rw [hg2, e2])))
  simpa using this
theorem LwW.rest {w0 w w4 : World} {lb : Nat} {pc : Int} {n : Nat} {ov ov' : Value} {ops : List OpN} {o : OpN} {ob : Obj} (h : LwW w0 w lb pc n ov ops)
    (hown : w4.ownsRow w0.heap.size 86 6 ov' (ops.length + 1) (ops.flatMap opC ++ opC o)) (hg : (w.alloc ob).grownBy w4 ov.ownBlock) : LwW w0 (w4.setCell ⟨lb, 2, none⟩ ov') lb pc n ov' (ops ++ [o]) ∧ LB w4 lb pc n ov :=
  h.op hown ((World.grownBy_alloc w _ _).trans hg)
theorem LwW.drew {w0 w : World} {lb : Nat} {pc : Int} {n : Nat} {ov : Value} {ops : List OpN} (h : LwW w0 w lb pc n ov ops) : LwW w0 w.drew lb pc n ov ops := h.trans (Below.refl _ _).drew
def KeptT (w w' : World) : Prop := ∀ (k : Nat) (cs : Array Value) (t : TypeId) (fr : Nat × Nat), w.heap[k]? = some (Obj.cells cs t fr) → t ≠ 86 → t ≠ 71 → w'.heap[k]? = some (Obj.cells cs t fr)
theorem KeptT.refl (w : World) : KeptT w w := fun _ _ _ _ h _ _ => h
theorem KeptT.trans {a b c : World} (h1 : KeptT a b) (h2 : KeptT b c) : KeptT a c := fun k cs t fr h n1 n2 => h2 k cs t fr (h1 k cs t fr h n1 n2) n1 n2
theorem KeptT.of_below {w w' : World} (h : Below w.heap.size w w') : KeptT w w' := fun k cs t fr hk _ _ => (h.block k (Array.getElem?_eq_some_iff.1 hk).1).trans hk
theorem LwW.kept {w0 w w4 : World} {lb : Nat} {pc : Int} {n : Nat} {ov ov' : Value} {ops : List OpN} {ob : Obj} (h : LwW w0 w lb pc n ov ops) (hg : (w.alloc ob).grownBy w4 ov.ownBlock) : KeptT w (w4.setCell ⟨lb, 2, none⟩ ov') := by
  intro k cs t fr hk n1 n2
  have hgr := (World.grownBy_alloc w ob _).trans hg
  have h4 := (hgr.block k (Array.getElem?_eq_some_iff.1 hk).1 (own_ne h.ops hk (fun e => n1 e.symm))).trans hk
  refine (setCell_other w4 lb 2 k ov' ?_).trans h4
  intro e
  subst e
  have hb := h.blk
  unfold LB at hb
  rw [hk] at hb
  simp only [Option.some.injEq, Obj.cells.injEq] at hb
  exact n2 hb.2.1
set_option maxHeartbeats 4000000 in
set_option maxRecDepth 1000000 in
theorem do_any {w0 w : World} {lb : Nat} {pc : Int} {n : Nat} {ov : Value} {ops : List OpN} (h : LwW w0 w lb pc n ov ops) (hl : ops.length < 1000) (k : OpK) (d a : Nat) (b imm : Int) :
    Calls Tryz.prog 22 #[.pointer (some ⟨lb, 0, none⟩), .string (bsl k.text), .int .i64 (d : Int), .int .i64 (a : Int), .int .i64 b, .int .u32 imm] w fun e w' => e = .returned (.tuple #[]) ∧ KeptT w w' ∧ ∃ ov', LwW w0 w' lb pc n ov' (ops ++ [⟨k, d, a, b, imm, n⟩]) := by
  have HL := Lib.hid h
  have HLN := Lib.hid hl
  obtain ⟨iO, hO1, hO2, hO3, hO4⟩ := info_parts Tryz.infoO
  obtain ⟨v', c', hv'⟩ : ∃ v' c', ov = .slice v' ops.length c' := by
    rcases Joins.ownsRow_forms h.ops with ⟨rfl, hz⟩ | ⟨g, cap, rfl⟩
    · exact ⟨_, _, by rw [hz]⟩
    · exact ⟨_, _, rfl⟩
  subst hv'
  obtain ⟨c0, c1, c2, f1, f2⟩ := LB.cells h.blk
  have HAL := h.trans ((Below.refl w.heap.size w).alloc (Nat.le_refl _) (.cells #[.string (bsl k.text), .int .i64 (d : Int), .int .i64 (a : Int), .int .i64 b, .int .u32 imm, .int .i64 (n : Int)] 86))
  obtain ⟨p0, p1, p2, r1, r2⟩ := LB.cells HAL.blk
  have hsize := h.size
  clear h HAL
  obtain ⟨kt, hkt⟩ : ∃ kt, bsl k.text = kt := ⟨_, rfl⟩
  have HKT := Lib.hid hkt
  rw [hkt] at p0 p1 p2 r1 r2
  rw [hkt]
  clear hkt
  go_enter Tryz.func22, Tryz.ntmps22
  go_region_law (refine step_append_lies _ rfl (.tmp 16) (.tmp 27) 32 rfl w0.heap.size 86 iO (.agg #[.string ByteArray.empty, .int .i64 0, .int .i64 0, .int .i64 0, .int .u32 0, .int .i64 0]) 6 56 Tryz.underlying32 hO1 hO2 hO3 hO4 rfl (by decide) _ ops.length (ops.flatMap opC) rfl (HL.out.ops.alloc _) _ 1 1 [.string kt, .int .i64 (d : Int), .int .i64 (a : Int), .int .i64 b, .int .u32 imm, .int .i64 (n : Int)] rfl rfl (six_news w _ _ _ _ _ _ _) (by have := opC_one ⟨k, d, a, b, imm, n⟩; unfold opC at this; rw [HKT.out] at this; exact this) (by decide) (by unfold maxLen; have := HLN.out; omega) (by have := HLN.out; omega) (by simp; omega) _ rfl ?_; intro g cap w6 hown6 hgrow6 hat6 hlt6; rw [← HKT.out] at hown6; obtain ⟨hA6, hAB6⟩ := (by first | exact HL.out.rest (o := ⟨k, d, a, b, imm, n⟩) hown6 hgrow6 | exact HL.out.drew.rest (o := ⟨k, d, a, b, imm, n⟩) hown6 hgrow6 : LwW w0 (w6.setCell ⟨lb, 2, none⟩ (.slice (some ⟨g, 0, none⟩) (ops.length + 1) cap)) lb pc n (.slice (some ⟨g, 0, none⟩) (ops.length + 1) cap) (ops ++ [⟨k, d, a, b, imm, n⟩]) ∧ LB w6 lb pc n (.slice v' ops.length c')); have HA6 := Lib.hid hA6; have HK6 : Hid (KeptT w (w6.setCell ⟨lb, 2, none⟩ (.slice (some ⟨g, 0, none⟩) (ops.length + 1) cap))) := (by first | exact HL.out.kept hgrow6 | exact (KeptT.of_below ((Below.refl w.heap.size w).drew)).trans (HL.out.drew.kept hgrow6)); obtain ⟨a0, a1, a2, b1, b2⟩ := LB.cells hAB6; clear hA6 hAB6 hown6 hgrow6 hat6 hlt6)
  all_goals
    clear a0 a1 a2 b1 b2 c0 c1 c2 f1 f2 p0 p1 p2 r1 r2 hsize
    go_wp2
    go_end0
    exact ⟨rfl, HK6.out, _, HA6.out⟩
end Go.Proofs.YtadoaldnjnkhgaaGreatDoor
namespace Go.Proofs.YtadoaldnjnkhgaaGreatDoor
open Go.RowKit
def OpK.lit : OpK → ByteArray
  | .set => ⟨#[115, 101, 116]⟩
  | .copy => ⟨#[99, 111, 112, 121]⟩
  | .overP => ⟨#[111, 118, 101, 114, 43]⟩
  | .overM => ⟨#[111, 118, 101, 114, 45]⟩
  | .load => ⟨#[108, 111, 97, 100]⟩
  | .store => ⟨#[115, 116, 111, 114, 101]⟩
  | .cond => ⟨#[105, 102]⟩
  | .out => ⟨#[111, 117, 116]⟩
  | .outr => ⟨#[111, 117, 116, 114]⟩
  | .add => ⟨#[97, 100, 100]⟩
  | .sub => ⟨#[115, 117, 98]⟩
  | .and => ⟨#[97, 110, 100]⟩
  | .or => ⟨#[111, 114]⟩
  | .xor => ⟨#[120, 111, 114]⟩
  | .nor => ⟨#[110, 111, 114]⟩
  | .slt => ⟨#[115, 108, 116]⟩
  | .sltu => ⟨#[115, 108, 116, 117]⟩
  | .shl => ⟨#[115, 104, 108]⟩
  | .shr => ⟨#[115, 104, 114]⟩
  | .sar => ⟨#[115, 97, 114]⟩
  | .mul => ⟨#[109, 117, 108]⟩
  | .mulh => ⟨#[109, 117, 108, 104]⟩
  | .mulhu => ⟨#[109, 117, 108, 104, 117]⟩
  | .quo => ⟨#[113, 117, 111]⟩
  | .rem => ⟨#[114, 101, 109]⟩
  | .quou => ⟨#[113, 117, 111, 117]⟩
  | .remu => ⟨#[114, 101, 109, 117]⟩
def hasL : OpK → ByteArray
  | .set => ⟨#[68, 73]⟩
  | .copy => ⟨#[68, 65]⟩
  | .overP => ⟨#[65, 66]⟩
  | .overM => ⟨#[65, 66]⟩
  | .load => ⟨#[68, 65, 66, 73]⟩
  | .store => ⟨#[68, 65, 66, 73]⟩
  | .cond => ⟨#[65, 73]⟩
  | .out => ⟨#[73]⟩
  | .outr => ⟨#[65]⟩
  | _ => ⟨#[68, 65, 66]⟩
def divKB : OpK → Bool
  | .quo => true
  | .rem => true
  | .quou => true
  | .remu => true
  | _ => false
def sumKB : OpK → Bool
  | .set => false
  | .copy => false
  | .overP => false
  | .overM => false
  | .load => false
  | .store => false
  | .cond => false
  | .out => false
  | .outr => false
  | _ => true
def hasD : OpK → Bool
  | .overP => false
  | .overM => false
  | .cond => false
  | .out => false
  | .outr => false
  | _ => true
def hasA : OpK → Bool
  | .set => false
  | .out => false
  | _ => true
def hasB : OpK → Bool
  | .set => false
  | .copy => false
  | .cond => false
  | .out => false
  | .outr => false
  | _ => true
def hasI : OpK → Bool
  | .set => true
  | .load => true
  | .store => true
  | .cond => true
  | .out => true
  | _ => false
theorem lit_text (k : OpK) : bsl k.text = k.lit := by cases k <;> rfl
theorem irDiv_any (k : OpK) (w : World) : Calls Tryz.prog 117 #[.string k.lit] w fun e w' => e = .returned (.bool (divKB k)) ∧ w = w' := by
  cases k <;> simp only [OpK.lit, divKB] <;> (go_enter Tryz.func117, Tryz.ntmps117; go_wp2; go_ret; exact ⟨rfl, rfl⟩)
theorem irSum_any (k : OpK) (w : World) : Calls Tryz.prog 139 #[.string k.lit] w fun e w' => e = .returned (.bool (sumKB k)) ∧ w = w' := by
  have HD := Lib.hid (irDiv_any k)
  cases k <;> simp only [OpK.lit, divKB, sumKB] at HD ⊢ <;> (go_enter Tryz.func139, Tryz.ntmps139; go_wp2_with (go_at_call 117; (with_reducible refine (HD.out _).mono ?_); rintro e w1 ⟨rfl, rfl⟩); go_ret; exact ⟨rfl, rfl⟩)
theorem irHas_any (k : OpK) (w : World) : Calls Tryz.prog 108 #[.string k.lit] w fun e w' => e = .returned (.string (hasL k)) ∧ w = w' := by
  have HD := Lib.hid (irSum_any k)
  cases k <;> simp only [OpK.lit, hasL, sumKB] at HD ⊢ <;> (go_enter Tryz.func108, Tryz.ntmps108; go_wp2_with (go_at_call 139; (with_reducible refine (HD.out _).mono ?_); rintro e w1 ⟨rfl, rfl⟩); go_ret; exact ⟨rfl, rfl⟩)
theorem irRegister_yes (n least : Int) (h0 : least ≤ n) (h1 : n < 64) (w : World) : Calls Tryz.prog 141 #[.int .i64 n, .int .i64 least] w fun e w' => e = .returned (.bool true) ∧ w = w' := by
  have e0 : decide (least ≤ n) = true := decide_eq_true h0
  have e1 : decide (n < 64) = true := decide_eq_true h1
  clear h0 h1
  go_enter Tryz.func141, Tryz.ntmps141
  go_wp2
  go_ret
  exact ⟨rfl, rfl⟩
theorem irContains (s sub : ByteArray) (b : Bool) (hb : Lib.contains s.data.toList sub.data.toList = b) (hs : s.size < 4294967281) {m : Int} (w : World) (hm : w.cell? ⟨11, 0, none⟩ = some (.int .i64 m)) :
    Calls Tryz.prog 140 #[.string s, .string sub] w fun e w' => e = .returned (.bool b) ∧ w = w' := by
  subst hb
  exact (Tryz.strings_Contains s sub m w hs hm).mono (fun e w' h => ⟨h.1, h.2.symm⟩)
theorem conD (k : OpK) {mx : Int} (wx : World) (hx : wx.cell? ⟨11, 0, none⟩ = some (.int .i64 mx)) : Calls Tryz.prog 140 #[.string (hasL k), .string ⟨#[68]⟩] wx fun e w' => e = .returned (.bool (hasD k)) ∧ wx = w' := by
  cases k <;> exact irContains _ _ _ rfl (by decide) wx hx
theorem conA (k : OpK) {mx : Int} (wx : World) (hx : wx.cell? ⟨11, 0, none⟩ = some (.int .i64 mx)) : Calls Tryz.prog 140 #[.string (hasL k), .string ⟨#[65]⟩] wx fun e w' => e = .returned (.bool (hasA k)) ∧ wx = w' := by
  cases k <;> exact irContains _ _ _ rfl (by decide) wx hx
theorem conB (k : OpK) {mx : Int} (wx : World) (hx : wx.cell? ⟨11, 0, none⟩ = some (.int .i64 mx)) : Calls Tryz.prog 140 #[.string (hasL k), .string ⟨#[66]⟩] wx fun e w' => e = .returned (.bool (hasB k)) ∧ wx = w' := by
  cases k <;> exact irContains _ _ _ rfl (by decide) wx hx
theorem conI (k : OpK) {mx : Int} (wx : World) (hx : wx.cell? ⟨11, 0, none⟩ = some (.int .i64 mx)) : Calls Tryz.prog 140 #[.string (hasL k), .string ⟨#[73]⟩] wx fun e w' => e = .returned (.bool (hasI k)) ∧ wx = w' := by
  cases k <;> exact irContains _ _ _ rfl (by decide) wx hx
theorem six_cells {w : World} {b : Nat} {t : TypeId} {a0 a1 a2 a3 a4 a5 : Value} {fr : Nat × Nat} (h : w.heap[b]? = some (Obj.cells #[a0, a1, a2, a3, a4, a5] t fr)) :
    w.cell? ⟨b, 0, none⟩ = some a0 ∧ w.cell? ⟨b, 1, none⟩ = some a1 ∧ w.cell? ⟨b, 2, none⟩ = some a2 ∧ w.cell? ⟨b, 3, none⟩ = some a3 ∧ w.cell? ⟨b, 4, none⟩ = some a4 ∧ w.cell? ⟨b, 5, none⟩ = some a5 := by
  refine ⟨?_, ?_, ?_, ?_, ?_, ?_⟩ <;> simp [World.cell?, h]
end Go.Proofs.YtadoaldnjnkhgaaGreatDoor
namespace Go.Proofs.YtadoaldnjnkhgaaGreatDoor
open Go.RowKit
theorem iter_below {w w' : World} {k : Nat} {s : ByteArray} {p : Nat} (h : Hid (w.heap[k]? = some (.stringIter s p))) (hb : Below w.heap.size w w') : Hid (w'.heap[k]? = some (.stringIter s p)) :=
  (hb.block k (Array.getElem?_eq_some_iff.1 h.out).1).trans h.out
theorem all_snoc {l : List UInt8} {j : Nat} {c : UInt8} {p : UInt8 → Bool} (hs : l.take (j + 1) = l.take j ++ [c]) (h : (l.take j).all p = true) (hc : p c = true) : Hid ((l.take (j + 1)).all p = true) := by
  show _ = true
  rw [hs, List.all_append, h]
  simp [hc]
theorem ok_of (i : InsN) (c : UInt8) (h0 : 0 ≤ valF i c) (h1 : valF i c < mostF c) : okF i c = true := by
  unfold okF
  simp [h0, h1]
def bad2 (i : InsN) (c : UInt8) : Bool := !((fieldsB i.op.toNat).contains c) && valF i c != 0
def encBad (i : InsN) : Bool := !((fieldsB i.op.toNat).all (okF i)) || [83, 84, 68].any (bad2 i) || (!((fieldsB i.op.toNat).any ([97, 105, 106].contains ·)) && i.imm != 0)
def encRes (i : InsN) (vB : Value) : Value := if encBad i then .tuple #[.int .u32 0, vB] else .tuple #[.int .u32 (encL i (fieldsB i.op.toNat)), .nilIface]
theorem encRes_bad {i : InsN} {vB : Value} (h : encBad i = true) : encRes i vB = .tuple #[.int .u32 0, vB] := by
  unfold encRes
  rw [if_pos h]
theorem encRes_good {i : InsN} {vB : Value} (h : encBad i = false) : encRes i vB = .tuple #[.int .u32 (encL i (fieldsB i.op.toNat)), .nilIface] := by
  unfold encRes
  rw [if_neg (by rw [h]; decide)]
theorem bad_1 (i : InsN) (c : UInt8) (hm : c ∈ fieldsB i.op.toNat) (h : ¬ (0 ≤ valF i c ∧ valF i c < mostF c)) : encBad i = true := by
  have h1 : (fieldsB i.op.toNat).all (okF i) = false := by
    rw [List.all_eq_false]
    refine ⟨c, hm, ?_⟩
    unfold okF
    intro hh
    simp at hh
    exact h hh
  unfold encBad
  rw [h1]
  rfl
theorem any_snoc {l : List UInt8} {j : Nat} {c : UInt8} {p : UInt8 → Bool} (hs : l.take (j + 1) = l.take j ++ [c]) (h : (l.take j).any p = false) (hc : p c = false) : Hid ((l.take (j + 1)).any p = false) := by
  show _ = false
  rw [hs, List.any_append, h]
  simp [hc]
theorem bad2_yes (i : InsN) (c : UInt8) (h : (fieldsB i.op.toNat).contains c = true) : bad2 i c = false := by
  unfold bad2
  rw [h]
  rfl
theorem bad2_zero (i : InsN) (c : UInt8) (h : valF i c = 0) : bad2 i c = false := by
  unfold bad2
  rw [h]
  simp
theorem bad_2 (i : InsN) (c : UInt8) (hm : c ∈ ([83, 84, 68] : List UInt8)) (h : (fieldsB i.op.toNat).contains c = false) (hv : ¬ valF i c = 0) : encBad i = true := by
  have h1 : [83, 84, 68].any (bad2 i) = true := by
    rw [List.any_eq_true]
    refine ⟨c, hm, ?_⟩
    unfold bad2
    rw [h]
    simp [hv]
  unfold encBad
  rw [h1]
  simp
theorem bad_3 (i : InsN) (h : (fieldsB i.op.toNat).any ([97, 105, 106].contains ·) = false) (hv : ¬ i.imm = 0) : encBad i = true := by
  unfold encBad
  rw [h]
  simp [hv]
theorem good_of (i : InsN) (h1 : (fieldsB i.op.toNat).all (okF i) = true) (h2 : [83, 84, 68].any (bad2 i) = false) (h3 : (fieldsB i.op.toNat).any ([97, 105, 106].contains ·) = true ∨ i.imm = 0) : encBad i = false := by
  unfold encBad
  rw [h1, h2]
  rcases h3 with h | h
  · rw [h]
    rfl
  · rw [h]
    simp
theorem letter_ascii (x : UInt8) (h : letter x) : x.toNat < 128 := by
  rcases h with rfl | rfl | rfl | rfl | rfl | rfl <;> decide
theorem fieldsB_short (k : Nat) : (fieldsB k).length ≤ 3 := by
  by_cases h : k < 54
  · have all : ∀ k, k < 54 → (fieldsB k).length ≤ 3 := by decide
    exact all k h
  · rw [fieldsB_big k (by omega)]
    simp
structure EncW (w wr : World) (i : InsN) (bs : Nat) (vK vB : Value) : Prop where
  ins : Five wr w.heap.size 61 (.int .i64 i.op) (.int .i64 i.s) (.int .i64 i.t) (.int .i64 i.d) (.int .u32 i.imm)
  shape : Five wr bs 157 (.string (nameS i.op)) (.int .u32 (majorZ i.op)) (.int .u32 (minorZ i.op)) (.string (fieldsS i.op)) (.string (kindS i.op))
  kK : wr.cell? ⟨4, 0, none⟩ = some vK
  kB : wr.cell? ⟨3, 0, none⟩ = some vB
  below : Below w.heap.size w wr
  lo : w.heap.size < bs
  gK : 4 < w.heap.size
  gB : 3 < w.heap.size
theorem EncW.transB {w wr w' : World} {i : InsN} {bs k : Nat} {vK vB : Value} (h : EncW w wr i bs vK vB) (hb : Below k wr w') (hk : bs < k) : EncW w w' i bs vK vB :=
  have lo := h.lo
  have gK := h.gK
  have gB := h.gB
  ⟨h.ins.below hb (by omega), h.shape.below hb hk, (hb.cell (p := ⟨4, 0, none⟩) (Nat.lt_trans gK (Nat.lt_trans lo hk))).trans h.kK, (hb.cell (p := ⟨3, 0, none⟩) (Nat.lt_trans gB (Nat.lt_trans lo hk))).trans h.kB, h.below.trans (hb.mono (by omega)), h.lo, h.gK, h.gB⟩
theorem EncW.trans {w wr w' : World} {i : InsN} {bs : Nat} {vK vB : Value} (h : EncW w wr i bs vK vB) (hb : Below wr.heap.size wr w') : EncW w w' i bs vK vB := h.transB hb h.shape.lt
theorem EncW.drew {w wr : World} {i : InsN} {bs : Nat} {vK vB : Value} (h : EncW w wr i bs vK vB) : EncW w wr.drew i bs vK vB := h.trans ((Below.refl _ _).drew)
theorem EncW.iterAt {w wr : World} {i : InsN} {bs k : Nat} {vK vB : Value} (h : EncW w wr i bs vK vB) (hk : bs < k) (s : ByteArray) (p : Nat) : EncW w (wr.iterAt k s p) i bs vK vB :=
  h.transB (Lib.below_iterAt (Below.refl k wr) (Nat.le_refl k) s p) hk
theorem EncW.start {w w1 : World} {i : InsN} {vK vB : Value} (hK : w.cell? ⟨4, 0, none⟩ = some vK) (hB : w.cell? ⟨3, 0, none⟩ = some vB)
    (hb1 : Below (w.alloc (.cells #[.int .i64 i.op, .int .i64 i.s, .int .i64 i.t, .int .i64 i.d, .int .u32 i.imm] 61)).heap.size (w.alloc (.cells #[.int .i64 i.op, .int .i64 i.s, .int .i64 i.t, .int .i64 i.d, .int .u32 i.imm] 61)) w1) : EncW w (w1.alloc (.cells #[.string (nameS i.op), .int .u32 (majorZ i.op), .int .u32 (minorZ i.op), .string (fieldsS i.op), .string (kindS i.op)] 157)) i w1.heap.size vK vB := by
  have hltK := World.block_lt_of_cell? w _ hK
  have hltB := World.block_lt_of_cell? w _ hB
  have hs := hb1.size
  rw [World.size_alloc] at hs
  have b1 : Below w.heap.size w (w.alloc (.cells #[.int .i64 i.op, .int .i64 i.s, .int .i64 i.t, .int .i64 i.d, .int .u32 i.imm] 61)) := (Below.refl _ _).alloc (Nat.le_refl _) _
  have b2 : Below w.heap.size w w1 := b1.trans (hb1.mono (by simp))
  have b3 : Below w.heap.size w (w1.alloc (.cells #[.string (nameS i.op), .int .u32 (majorZ i.op), .int .u32 (minorZ i.op), .string (fieldsS i.op), .string (kindS i.op)] 157)) := b2.alloc (by omega) _
  have b4 : Below w1.heap.size w1 (w1.alloc (.cells #[.string (nameS i.op), .int .u32 (majorZ i.op), .int .u32 (minorZ i.op), .string (fieldsS i.op), .string (kindS i.op)] 157)) := (Below.refl _ _).alloc (Nat.le_refl _) _
  exact ⟨((Five.new w _ _ _ _ _ _).below hb1 (by simp)).below b4 (by omega), Five.new w1 _ _ _ _ _ _, (b3.cell hltK).trans hK, (b3.cell hltB).trans hB, b3, by omega, hltK, hltB⟩
set_option maxHeartbeats 1000000 in
theorem encode_none (i : InsN) (hn : (nameS i.op).toList.isEmpty = true) (vK vB : Value) (w : World) (hK : w.cell? ⟨4, 0, none⟩ = some vK) (hB : w.cell? ⟨3, 0, none⟩ = some vB) :
    Calls Tryz.prog 43 #[insV i] w fun e w' => e = .returned (.tuple #[.int .u32 0, vK]) ∧ Below w.heap.size w w' := by
  go_enter Tryz.func43, Tryz.ntmps43
  go_wp2_with (go_at_call 75; refine (of_agg _ _).mono ?_; rintro e w1 ⟨rfl, hb1⟩)
  have HE := EncW.start (i := i) hK hB hb1
  clear hK hB hb1
  generalize (w1.alloc (.cells #[.string (nameS i.op), .int .u32 (majorZ i.op), .int .u32 (minorZ i.op), .string (fieldsS i.op), .string (kindS i.op)] 157)) = w2 at *
  have hk := HE.kK
  go_quiet (fail)
  go_wp2
  go_ret2
  exact ⟨rfl, below_drewN HE.below _⟩
set_option maxHeartbeats 2000000 in
theorem encode_some (i : InsN) (hi : i.Fits) (hn : (nameS i.op).toList.isEmpty = false) (vK vB : Value) (w : World) (hK : w.cell? ⟨4, 0, none⟩ = some vK) (hB : w.cell? ⟨3, 0, none⟩ = some vB) :
    Calls Tryz.prog 43 #[insV i] w fun e w' => e = .returned (encRes i vB) ∧ Below w.heap.size w w' := by
  obtain ⟨o0, o1, s0, s1, t0, t1, d0, d1, m0, m1⟩ := hi
  go_enter Tryz.func43, Tryz.ntmps43
  go_wp2_with (go_at_call 75; refine (of_agg _ _).mono ?_; rintro e w1 ⟨rfl, hb1⟩)
  have HE := EncW.start (i := i) hK hB hb1
  clear hK hB hb1
  generalize (w1.alloc (.cells #[.string (nameS i.op), .int .u32 (majorZ i.op), .int .u32 (minorZ i.op), .string (fieldsS i.op), .string (kindS i.op)] 157)) = w2 at *
  generalize w1.heap.size = bs at *
  refine (fixed_any _ _).mono ?_
  rintro e w3 ⟨rfl, hb3⟩
  have HE3 := HE.trans hb3
  clear HE hb3
  obtain ⟨c0, c1, c2, c3, c4⟩ := HE3.shape.cells
  go_wp2_with fail
  have HI0 : Hid ((w3.iter (fieldsS i.op) 0).heap[w3.heap.size]? = some (.stringIter (fieldsS i.op) 0)) := iter_new _ _ _ _ rfl
  have HE4 : EncW w (w3.iter (fieldsS i.op) 0) i bs vK vB := HE3.trans (below_iter (Below.refl _ _) (Nat.le_refl _) _ _)
  have hlk : bs < w3.heap.size := HE3.shape.lt
  clear HE3 c0 c1 c2 c3 c4
  generalize w3.iter (fieldsS i.op) 0 = w4 at *
  generalize w3.heap.size = kI at *
  go_loopw [5] (fun v wr => ∃ j : Nat, j ≤ (fieldsB i.op.toNat).length ∧ v = .int .u32 (encL i ((fieldsB i.op.toNat).take j)) ∧ Hid (((fieldsB i.op.toNat).take j).all (okF i) = true) ∧ Hid (wr.heap[kI]? = some (.stringIter (fieldsS i.op) j)) ∧ EncW w wr i bs vK vB) (fun _ wr => (fieldsB i.op.toNat).length - wr.iterPos kI)
  case atStart => exact ⟨0, Nat.zero_le _, rfl, rfl, HI0, HE4⟩
  case round =>
    obtain ⟨j, hj, rfl, hall, hit, HE⟩ := hrel
    by_cases hlt : j < (fieldsB i.op.toNat).length
    · have hc : (fieldsB i.op.toNat)[j]? = some (fieldsB i.op.toNat)[j] := List.getElem?_eq_getElem hlt
      have hlet : letter (fieldsB i.op.toNat)[j] := fieldsB_letter _ _ (List.getElem_mem hlt)
      have HMEM := Lib.hid (List.getElem_mem hlt)
      generalize (fieldsB i.op.toNat)[j] = y at hc hlet HMEM
      have HS := Lib.hid (take_succ_of (fieldsB i.op.toNat) j y hc)
      rcases hlet with rfl | rfl | rfl | rfl | rfl | rfl
      · have hnx : ∀ ty, (Instr.next (.pointer (some ⟨kI, 0, none⟩)) true ty).run Tryz.prog wr = _ := fun ty => next_lit_at (P := Tryz.prog) wr kI (fieldsB i.op.toNat) j ty 83 83 hit.out hc (by decide) (by decide)
        clear hc
        have HE5 : EncW w (wr.iterAt kI (bsl (fieldsB i.op.toNat)) (j + 1)) i bs vK vB := HE.iterAt hlk _ _
        have hit5 : Hid ((wr.iterAt kI (bsl (fieldsB i.op.toNat)) (j + 1)).heap[kI]? = some (.stringIter (fieldsS i.op) (j + 1))) := Lib.iterAt_heap wr kI _ j _ hit.out
        have HM := Lib.hid (iterPos_of hit.out)
        generalize (wr.iterAt kI (bsl (fieldsB i.op.toNat)) (j + 1)) = w5 at hnx HE5 hit5
        obtain ⟨c0, c1, c2, c3, c4⟩ := HE5.ins.cells
        go_wp2_with (go_at_call 77; refine (place_83 _).mono ?_; rintro e w' ⟨rfl, rfl⟩)
        refine (value_83 _ _).mono ?_
        rintro e w6 ⟨rfl, hb6⟩
        have HE6 := HE5.trans hb6
        have hit6 := iter_below hit5 hb6
        have hkb := HE6.kB
        clear HE5 hit5 hb6 c0 c1 c2 c3 c4
        by_cases hv : 0 ≤ i.s ∧ i.s < 32
        · obtain ⟨hv0, hv1⟩ := hv
          go_wp2
          go_roundw
          case rel => exact ⟨j + 1, by omega, by rw [HS.out, encL_snoc]; rfl, all_snoc HS.out hall.out (ok_of i 83 hv0 hv1), hit6, HE6⟩
          case measure => rw [iterPos_of hit6.out, HM.out]; omega
        · have hbad : encBad i = true := bad_1 i 83 HMEM.out hv
          by_cases hv0 : 0 ≤ i.s
          · have hv1 : 32 ≤ i.s := by omega
            go_wp2
            go_quiet (fail)
            go_wp2
            go_ret2
            exact ⟨by rw [encRes_bad hbad]; rfl, below_drewN HE6.below _⟩
          · have hv1 : i.s < 0 := by omega
            go_wp2
            go_quiet (fail)
            go_wp2
            go_ret2
            exact ⟨by rw [encRes_bad hbad]; rfl, below_drewN HE6.below _⟩
      · have hnx : ∀ ty, (Instr.next (.pointer (some ⟨kI, 0, none⟩)) true ty).run Tryz.prog wr = _ := fun ty => next_lit_at (P := Tryz.prog) wr kI (fieldsB i.op.toNat) j ty 84 84 hit.out hc (by decide) (by decide)
        clear hc
        have HE5 : EncW w (wr.iterAt kI (bsl (fieldsB i.op.toNat)) (j + 1)) i bs vK vB := HE.iterAt hlk _ _
        have hit5 : Hid ((wr.iterAt kI (bsl (fieldsB i.op.toNat)) (j + 1)).heap[kI]? = some (.stringIter (fieldsS i.op) (j + 1))) := Lib.iterAt_heap wr kI _ j _ hit.out
        have HM := Lib.hid (iterPos_of hit.out)
        generalize (wr.iterAt kI (bsl (fieldsB i.op.toNat)) (j + 1)) = w5 at hnx HE5 hit5
        obtain ⟨c0, c1, c2, c3, c4⟩ := HE5.ins.cells
        go_wp2_with (go_at_call 77; refine (place_84 _).mono ?_; rintro e w' ⟨rfl, rfl⟩)
        refine (value_84 _ _).mono ?_
        rintro e w6 ⟨rfl, hb6⟩
        have HE6 := HE5.trans hb6
        have hit6 := iter_below hit5 hb6
        have hkb := HE6.kB
        clear HE5 hit5 hb6 c0 c1 c2 c3 c4
        by_cases hv : 0 ≤ i.t ∧ i.t < 32
        · obtain ⟨hv0, hv1⟩ := hv
          go_wp2
          go_roundw
          case rel => exact ⟨j + 1, by omega, by rw [HS.out, encL_snoc]; rfl, all_snoc HS.out hall.out (ok_of i 84 hv0 hv1), hit6, HE6⟩
          case measure => rw [iterPos_of hit6.out, HM.out]; omega
        · have hbad : encBad i = true := bad_1 i 84 HMEM.out hv
          by_cases hv0 : 0 ≤ i.t
          · have hv1 : 32 ≤ i.t := by omega
            go_wp2
            go_quiet (fail)
            go_wp2
            go_ret2
            exact ⟨by rw [encRes_bad hbad]; rfl, below_drewN HE6.below _⟩
          · have hv1 : i.t < 0 := by omega
            go_wp2
            go_quiet (fail)
            go_wp2
            go_ret2
            exact ⟨by rw [encRes_bad hbad]; rfl, below_drewN HE6.below _⟩
      · have hnx : ∀ ty, (Instr.next (.pointer (some ⟨kI, 0, none⟩)) true ty).run Tryz.prog wr = _ := fun ty => next_lit_at (P := Tryz.prog) wr kI (fieldsB i.op.toNat) j ty 68 68 hit.out hc (by decide) (by decide)
        clear hc
        have HE5 : EncW w (wr.iterAt kI (bsl (fieldsB i.op.toNat)) (j + 1)) i bs vK vB := HE.iterAt hlk _ _
        have hit5 : Hid ((wr.iterAt kI (bsl (fieldsB i.op.toNat)) (j + 1)).heap[kI]? = some (.stringIter (fieldsS i.op) (j + 1))) := Lib.iterAt_heap wr kI _ j _ hit.out
        have HM := Lib.hid (iterPos_of hit.out)
        generalize (wr.iterAt kI (bsl (fieldsB i.op.toNat)) (j + 1)) = w5 at hnx HE5 hit5
        obtain ⟨c0, c1, c2, c3, c4⟩ := HE5.ins.cells
        go_wp2_with (go_at_call 77; refine (place_68 _).mono ?_; rintro e w' ⟨rfl, rfl⟩)
        refine (value_68 _ _).mono ?_
        rintro e w6 ⟨rfl, hb6⟩
        have HE6 := HE5.trans hb6
        have hit6 := iter_below hit5 hb6
        have hkb := HE6.kB
        clear HE5 hit5 hb6 c0 c1 c2 c3 c4
        by_cases hv : 0 ≤ i.d ∧ i.d < 32
        · obtain ⟨hv0, hv1⟩ := hv
          go_wp2
          go_roundw
          case rel => exact ⟨j + 1, by omega, by rw [HS.out, encL_snoc]; rfl, all_snoc HS.out hall.out (ok_of i 68 hv0 hv1), hit6, HE6⟩
          case measure => rw [iterPos_of hit6.out, HM.out]; omega
        · have hbad : encBad i = true := bad_1 i 68 HMEM.out hv
          by_cases hv0 : 0 ≤ i.d
          · have hv1 : 32 ≤ i.d := by omega
            go_wp2
            go_quiet (fail)
            go_wp2
            go_ret2
            exact ⟨by rw [encRes_bad hbad]; rfl, below_drewN HE6.below _⟩
          · have hv1 : i.d < 0 := by omega
            go_wp2
            go_quiet (fail)
            go_wp2
            go_ret2
            exact ⟨by rw [encRes_bad hbad]; rfl, below_drewN HE6.below _⟩
      · have hnx : ∀ ty, (Instr.next (.pointer (some ⟨kI, 0, none⟩)) true ty).run Tryz.prog wr = _ := fun ty => next_lit_at (P := Tryz.prog) wr kI (fieldsB i.op.toNat) j ty 97 97 hit.out hc (by decide) (by decide)
        clear hc
        have HE5 : EncW w (wr.iterAt kI (bsl (fieldsB i.op.toNat)) (j + 1)) i bs vK vB := HE.iterAt hlk _ _
        have hit5 : Hid ((wr.iterAt kI (bsl (fieldsB i.op.toNat)) (j + 1)).heap[kI]? = some (.stringIter (fieldsS i.op) (j + 1))) := Lib.iterAt_heap wr kI _ j _ hit.out
        have HM := Lib.hid (iterPos_of hit.out)
        generalize (wr.iterAt kI (bsl (fieldsB i.op.toNat)) (j + 1)) = w5 at hnx HE5 hit5
        obtain ⟨c0, c1, c2, c3, c4⟩ := HE5.ins.cells
        go_wp2_with (go_at_call 77; refine (place_97 _).mono ?_; rintro e w' ⟨rfl, rfl⟩)
        refine (value_imm _ _ (by omega) m0 m1 _).mono ?_
        rintro e w6 ⟨rfl, hb6⟩
        have HE6 := HE5.trans hb6
        have hit6 := iter_below hit5 hb6
        have hkb := HE6.kB
        clear HE5 hit5 hb6 c0 c1 c2 c3 c4
        by_cases hv : 0 ≤ i.imm ∧ i.imm < 32
        · obtain ⟨hv0, hv1⟩ := hv
          go_wp2
          go_roundw
          case rel => exact ⟨j + 1, by omega, by rw [HS.out, encL_snoc]; rfl, all_snoc HS.out hall.out (ok_of i 97 hv0 hv1), hit6, HE6⟩
          case measure => rw [iterPos_of hit6.out, HM.out]; omega
        · have hbad : encBad i = true := bad_1 i 97 HMEM.out hv
          by_cases hv0 : 0 ≤ i.imm
          · have hv1 : 32 ≤ i.imm := by omega
            go_wp2
            go_quiet (fail)
            go_wp2
            go_ret2
            exact ⟨by rw [encRes_bad hbad]; rfl, below_drewN HE6.below _⟩
          · have hv1 : i.imm < 0 := by omega
            go_wp2
            go_quiet (fail)
            go_wp2
            go_ret2
            exact ⟨by rw [encRes_bad hbad]; rfl, below_drewN HE6.below _⟩
      · have hnx : ∀ ty, (Instr.next (.pointer (some ⟨kI, 0, none⟩)) true ty).run Tryz.prog wr = _ := fun ty => next_lit_at (P := Tryz.prog) wr kI (fieldsB i.op.toNat) j ty 105 105 hit.out hc (by decide) (by decide)
        clear hc
        have HE5 : EncW w (wr.iterAt kI (bsl (fieldsB i.op.toNat)) (j + 1)) i bs vK vB := HE.iterAt hlk _ _
        have hit5 : Hid ((wr.iterAt kI (bsl (fieldsB i.op.toNat)) (j + 1)).heap[kI]? = some (.stringIter (fieldsS i.op) (j + 1))) := Lib.iterAt_heap wr kI _ j _ hit.out
        have HM := Lib.hid (iterPos_of hit.out)
        generalize (wr.iterAt kI (bsl (fieldsB i.op.toNat)) (j + 1)) = w5 at hnx HE5 hit5
        obtain ⟨c0, c1, c2, c3, c4⟩ := HE5.ins.cells
        go_wp2_with (go_at_call 77; refine (place_105 _).mono ?_; rintro e w' ⟨rfl, rfl⟩)
        refine (value_imm _ _ (by omega) m0 m1 _).mono ?_
        rintro e w6 ⟨rfl, hb6⟩
        have HE6 := HE5.trans hb6
        have hit6 := iter_below hit5 hb6
        have hkb := HE6.kB
        clear HE5 hit5 hb6 c0 c1 c2 c3 c4
        by_cases hv : 0 ≤ i.imm ∧ i.imm < 65536
        · obtain ⟨hv0, hv1⟩ := hv
          go_wp2
          go_roundw
          case rel => exact ⟨j + 1, by omega, by rw [HS.out, encL_snoc]; rfl, all_snoc HS.out hall.out (ok_of i 105 hv0 hv1), hit6, HE6⟩
          case measure => rw [iterPos_of hit6.out, HM.out]; omega
        · have hbad : encBad i = true := bad_1 i 105 HMEM.out hv
          by_cases hv0 : 0 ≤ i.imm
          · have hv1 : 65536 ≤ i.imm := by omega
            go_wp2
            go_quiet (fail)
            go_wp2
            go_ret2
            exact ⟨by rw [encRes_bad hbad]; rfl, below_drewN HE6.below _⟩
          · have hv1 : i.imm < 0 := by omega
            go_wp2
            go_quiet (fail)
            go_wp2
            go_ret2
            exact ⟨by rw [encRes_bad hbad]; rfl, below_drewN HE6.below _⟩
      · have hnx : ∀ ty, (Instr.next (.pointer (some ⟨kI, 0, none⟩)) true ty).run Tryz.prog wr = _ := fun ty => next_lit_at (P := Tryz.prog) wr kI (fieldsB i.op.toNat) j ty 106 106 hit.out hc (by decide) (by decide)
        clear hc
        have HE5 : EncW w (wr.iterAt kI (bsl (fieldsB i.op.toNat)) (j + 1)) i bs vK vB := HE.iterAt hlk _ _
        have hit5 : Hid ((wr.iterAt kI (bsl (fieldsB i.op.toNat)) (j + 1)).heap[kI]? = some (.stringIter (fieldsS i.op) (j + 1))) := Lib.iterAt_heap wr kI _ j _ hit.out
        have HM := Lib.hid (iterPos_of hit.out)
        generalize (wr.iterAt kI (bsl (fieldsB i.op.toNat)) (j + 1)) = w5 at hnx HE5 hit5
        obtain ⟨c0, c1, c2, c3, c4⟩ := HE5.ins.cells
        go_wp2_with (go_at_call 77; refine (place_106 _).mono ?_; rintro e w' ⟨rfl, rfl⟩)
        refine (value_imm _ _ (by omega) m0 m1 _).mono ?_
        rintro e w6 ⟨rfl, hb6⟩
        have HE6 := HE5.trans hb6
        have hit6 := iter_below hit5 hb6
        have hkb := HE6.kB
        clear HE5 hit5 hb6 c0 c1 c2 c3 c4
        by_cases hv : 0 ≤ i.imm ∧ i.imm < 67108864
        · obtain ⟨hv0, hv1⟩ := hv
          go_wp2
          go_roundw
          case rel => exact ⟨j + 1, by omega, by rw [HS.out, encL_snoc]; rfl, all_snoc HS.out hall.out (ok_of i 106 hv0 hv1), hit6, HE6⟩
          case measure => rw [iterPos_of hit6.out, HM.out]; omega
        · have hbad : encBad i = true := bad_1 i 106 HMEM.out hv
          by_cases hv0 : 0 ≤ i.imm
          · have hv1 : 67108864 ≤ i.imm := by omega
            go_wp2
            go_quiet (fail)
            go_wp2
            go_ret2
            exact ⟨by rw [encRes_bad hbad]; rfl, below_drewN HE6.below _⟩
          · have hv1 : i.imm < 0 := by omega
            go_wp2
            go_quiet (fail)
            go_wp2
            go_ret2
            exact ⟨by rw [encRes_bad hbad]; rfl, below_drewN HE6.below _⟩
    · have hnx : ∀ ty, (Instr.next (.pointer (some ⟨kI, 0, none⟩)) true ty).run Tryz.prog wr = _ := fun ty => next_fin_at (P := Tryz.prog) wr kI (fieldsB i.op.toNat) j ty hit.out hlt
      have hfull : (fieldsB i.op.toNat).take j = fieldsB i.op.toNat := List.take_of_length_le (by omega)
      have HALL := hall.out
      rw [hfull] at HALL
      have HALL2 := Lib.hid HALL
      clear HALL hall
      rw [hfull]
      clear hfull
      go_wp2_with fail
      have hi2 : Hid ((wr.iter ⟨#[83, 84, 68]⟩ 0).heap[wr.heap.size]? = some (.stringIter (bsl [83, 84, 68]) 0)) := iter_new _ _ _ _ rfl
      have HE2 : EncW w (wr.iter ⟨#[83, 84, 68]⟩ 0) i bs vK vB := HE.trans (below_iter (Below.refl _ _) (Nat.le_refl _) _ _)
      have hlk2 : bs < wr.heap.size := HE.shape.lt
      clear HE hnx hit
      generalize wr.iter ⟨#[83, 84, 68]⟩ 0 = wa at *
      generalize wr.heap.size = kJ at *
      clear j hj hlt
      obtain ⟨wo, rfl⟩ : ∃ wo : World, wo = wr := ⟨_, rfl⟩
      go_loopw [12] (fun _ wr => ∃ j : Nat, j ≤ 3 ∧ Hid (([83, 84, 68].take j).any (bad2 i) = false) ∧ Hid (wr.heap[kJ]? = some (.stringIter (bsl [83, 84, 68]) j)) ∧ EncW w wr i bs vK vB) (fun _ wr => 3 - wr.iterPos kJ)
      case atStart => exact ⟨0, by omega, rfl, hi2, HE2⟩
      case round =>
        obtain ⟨j, hj, hany, hit, HE⟩ := hrel
        have HM := Lib.hid (iterPos_of hit.out)
        by_cases hlt : j < 3
        · have h3 : j = 0 ∨ j = 1 ∨ j = 2 := by omega
          rcases h3 with rfl | rfl | rfl
          · have hnx : ∀ ty, (Instr.next (.pointer (some ⟨kJ, 0, none⟩)) true ty).run Tryz.prog wr = _ := fun ty => next_lit_at (P := Tryz.prog) wr kJ [83, 84, 68] 0 ty 83 83 hit.out rfl (by decide) (by decide)
            have HE5 : EncW w (wr.iterAt kJ (bsl [83, 84, 68]) (0 + 1)) i bs vK vB := HE.iterAt hlk2 _ _
            have hit5 : Hid ((wr.iterAt kJ (bsl [83, 84, 68]) (0 + 1)).heap[kJ]? = some (.stringIter (bsl [83, 84, 68]) 1)) := Lib.iterAt_heap wr kJ _ 0 _ hit.out
            generalize (wr.iterAt kJ (bsl [83, 84, 68]) (0 + 1)) = w5 at hnx HE5 hit5
            obtain ⟨c0, c1, c2, c3, c4⟩ := HE5.shape.cells
            obtain ⟨d0', d1', d2', d3', d4'⟩ := HE5.ins.cells
            by_cases hcon : (fieldsB i.op.toNat).contains 83 = true
            · have HC := Lib.hid hcon
              clear hcon
              go_wp2_with (go_at_call 79; refine (containsRune_yes _ 83 HC 83 (by decide) (by decide) _).mono ?_; rintro e w' ⟨rfl, rfl⟩)
              go_roundw
              case rel => exact ⟨1, by omega, any_snoc rfl hany.out (bad2_yes i 83 HC.out), hit5, HE5⟩
              case measure => rw [iterPos_of hit5.out, HM.out]; omega
            · have HC := Lib.hid (Bool.eq_false_iff.2 hcon)
              clear hcon
              go_wp2_with (go_at_call 79; refine (containsRune_no _ 83 HC 83 (by decide) (by decide) _).mono ?_; rintro e w' ⟨rfl, rfl⟩)
              refine (value_83 _ _).mono ?_
              rintro e w6 ⟨rfl, hb6⟩
              have HE6 := HE5.trans hb6
              have hit6 := iter_below hit5 hb6
              have hkb := HE6.kB
              clear HE5 hit5 hb6 c0 c1 c2 c3 c4 d0' d1' d2' d3' d4'
              by_cases hv : i.s = 0
              · have hv1 : (i.s != 0) = false := by rw [hv]; rfl
                have HV := Lib.hid hv
                clear hv
                go_wp2
                go_roundw
                case rel => exact ⟨1, by omega, any_snoc rfl hany.out (bad2_zero i 83 HV.out), hit6, HE6⟩
                case measure => rw [iterPos_of hit6.out, HM.out]; omega
              · have hv1 : (i.s != 0) = true := by rw [bne_iff_ne]; exact hv
                have hbad : encBad i = true := bad_2 i 83 (by decide) HC.out hv
                go_wp2
                go_quiet (fail)
                go_wp2
                go_ret2
                exact ⟨by rw [encRes_bad hbad]; rfl, below_drewN HE6.below _⟩
          · have hnx : ∀ ty, (Instr.next (.pointer (some ⟨kJ, 0, none⟩)) true ty).run Tryz.prog wr = _ := fun ty => next_lit_at (P := Tryz.prog) wr kJ [83, 84, 68] 1 ty 84 84 hit.out rfl (by decide) (by decide)
            have HE5 : EncW w (wr.iterAt kJ (bsl [83, 84, 68]) (1 + 1)) i bs vK vB := HE.iterAt hlk2 _ _
            have hit5 : Hid ((wr.iterAt kJ (bsl [83, 84, 68]) (1 + 1)).heap[kJ]? = some (.stringIter (bsl [83, 84, 68]) 2)) := Lib.iterAt_heap wr kJ _ 1 _ hit.out
            generalize (wr.iterAt kJ (bsl [83, 84, 68]) (1 + 1)) = w5 at hnx HE5 hit5
            obtain ⟨c0, c1, c2, c3, c4⟩ := HE5.shape.cells
            obtain ⟨d0', d1', d2', d3', d4'⟩ := HE5.ins.cells
            by_cases hcon : (fieldsB i.op.toNat).contains 84 = true
            · have HC := Lib.hid hcon
              clear hcon
              go_wp2_with (go_at_call 79; refine (containsRune_yes _ 84 HC 84 (by decide) (by decide) _).mono ?_; rintro e w' ⟨rfl, rfl⟩)
              go_roundw
              case rel => exact ⟨2, by omega, any_snoc rfl hany.out (bad2_yes i 84 HC.out), hit5, HE5⟩
              case measure => rw [iterPos_of hit5.out, HM.out]; omega
            · have HC := Lib.hid (Bool.eq_false_iff.2 hcon)
              clear hcon
              go_wp2_with (go_at_call 79; refine (containsRune_no _ 84 HC 84 (by decide) (by decide) _).mono ?_; rintro e w' ⟨rfl, rfl⟩)
              refine (value_84 _ _).mono ?_
              rintro e w6 ⟨rfl, hb6⟩
              have HE6 := HE5.trans hb6
              have hit6 := iter_below hit5 hb6
              have hkb := HE6.kB
              clear HE5 hit5 hb6 c0 c1 c2 c3 c4 d0' d1' d2' d3' d4'
              by_cases hv : i.t = 0
              · have hv1 : (i.t != 0) = false := by rw [hv]; rfl
                have HV := Lib.hid hv
                clear hv
                go_wp2
                go_roundw
                case rel => exact ⟨2, by omega, any_snoc rfl hany.out (bad2_zero i 84 HV.out), hit6, HE6⟩
                case measure => rw [iterPos_of hit6.out, HM.out]; omega
              · have hv1 : (i.t != 0) = true := by rw [bne_iff_ne]; exact hv
                have hbad : encBad i = true := bad_2 i 84 (by decide) HC.out hv
                go_wp2
                go_quiet (fail)
                go_wp2
                go_ret2
                exact ⟨by rw [encRes_bad hbad]; rfl, below_drewN HE6.below _⟩
          · have hnx : ∀ ty, (Instr.next (.pointer (some ⟨kJ, 0, none⟩)) true ty).run Tryz.prog wr = _ := fun ty => next_lit_at (P := Tryz.prog) wr kJ [83, 84, 68] 2 ty 68 68 hit.out rfl (by decide) (by decide)
            have HE5 : EncW w (wr.iterAt kJ (bsl [83, 84, 68]) (2 + 1)) i bs vK vB := HE.iterAt hlk2 _ _
            have hit5 : Hid ((wr.iterAt kJ (bsl [83, 84, 68]) (2 + 1)).heap[kJ]? = some (.stringIter (bsl [83, 84, 68]) 3)) := Lib.iterAt_heap wr kJ _ 2 _ hit.out
            generalize (wr.iterAt kJ (bsl [83, 84, 68]) (2 + 1)) = w5 at hnx HE5 hit5
            obtain ⟨c0, c1, c2, c3, c4⟩ := HE5.shape.cells
            obtain ⟨d0', d1', d2', d3', d4'⟩ := HE5.ins.cells
            by_cases hcon : (fieldsB i.op.toNat).contains 68 = true
            · have HC := Lib.hid hcon
              clear hcon
              go_wp2_with (go_at_call 79; refine (containsRune_yes _ 68 HC 68 (by decide) (by decide) _).mono ?_; rintro e w' ⟨rfl, rfl⟩)
              go_roundw
              case rel => exact ⟨3, by omega, any_snoc rfl hany.out (bad2_yes i 68 HC.out), hit5, HE5⟩
              case measure => rw [iterPos_of hit5.out, HM.out]; omega
            · have HC := Lib.hid (Bool.eq_false_iff.2 hcon)
              clear hcon
              go_wp2_with (go_at_call 79; refine (containsRune_no _ 68 HC 68 (by decide) (by decide) _).mono ?_; rintro e w' ⟨rfl, rfl⟩)
              refine (value_68 _ _).mono ?_
              rintro e w6 ⟨rfl, hb6⟩
              have HE6 := HE5.trans hb6
              have hit6 := iter_below hit5 hb6
              have hkb := HE6.kB
              clear HE5 hit5 hb6 c0 c1 c2 c3 c4 d0' d1' d2' d3' d4'
              by_cases hv : i.d = 0
              · have hv1 : (i.d != 0) = false := by rw [hv]; rfl
                have HV := Lib.hid hv
                clear hv
                go_wp2
                go_roundw
                case rel => exact ⟨3, by omega, any_snoc rfl hany.out (bad2_zero i 68 HV.out), hit6, HE6⟩
                case measure => rw [iterPos_of hit6.out, HM.out]; omega
              · have hv1 : (i.d != 0) = true := by rw [bne_iff_ne]; exact hv
                have hbad : encBad i = true := bad_2 i 68 (by decide) HC.out hv
                go_wp2
                go_quiet (fail)
                go_wp2
                go_ret2
                exact ⟨by rw [encRes_bad hbad]; rfl, below_drewN HE6.below _⟩
        · have hnx : ∀ ty, (Instr.next (.pointer (some ⟨kJ, 0, none⟩)) true ty).run Tryz.prog wr = _ := fun ty => next_fin_at (P := Tryz.prog) wr kJ [83, 84, 68] j ty hit.out hlt
          obtain ⟨c0, c1, c2, c3, c4⟩ := HE.shape.cells
          obtain ⟨d0', d1', d2', d3', d4'⟩ := HE.ins.cells
          have hj3 : ([83, 84, 68] : List UInt8).take j = [83, 84, 68] := List.take_of_length_le (by simp; omega)
          have HA2 := hany.out
          rw [hj3] at HA2
          have HA3 := Lib.hid HA2
          clear HA2 hj3 hany
          go_wp2_with fail
          have h128 : ∀ x ∈ fieldsB i.op.toNat, x.toNat < 128 := fun x hx => letter_ascii x (fieldsB_letter _ x hx)
          have hlen := fieldsB_short i.op.toNat
          by_cases h3 : (fieldsB i.op.toNat).any ([97, 105, 106].contains ·) = true
          · have H3 := Lib.hid h3
            clear h3
            refine (containsAny_is _ [97, 105, 106] _ H3 (by omega) (by decide) h128 (by decide) _).mono ?_
            rintro e w6 ⟨rfl, hb6⟩
            have HE6 := HE.trans hb6
            have hgood : encBad i = false := good_of i HALL2.out HA3.out (Or.inl H3.out)
            clear h128 hlen HE hb6 hit c0 c1 c2 c3 c4 d0' d1' d2' d3' d4' hnx
            go_wp2
            go_ret2
            exact ⟨by rw [encRes_good hgood]; rfl, HE6.below⟩
          · have H3 := Lib.hid (Bool.eq_false_iff.2 h3)
            clear h3
            refine (containsAny_is _ [97, 105, 106] _ H3 (by omega) (by decide) h128 (by decide) _).mono ?_
            rintro e w6 ⟨rfl, hb6⟩
            have HE6 := HE.trans hb6
            obtain ⟨e0, e1, e2, e3, e4⟩ := HE6.ins.cells
            have hkb := HE6.kB
            clear h128 hlen HE hb6 hit c0 c1 c2 c3 c4 d0' d1' d2' d3' d4' hnx
            by_cases hv : i.imm = 0
            · have hv1 : (i.imm != 0) = false := by rw [hv]; rfl
              have hgood : encBad i = false := good_of i HALL2.out HA3.out (Or.inr hv)
              clear hv
              go_wp2
              go_ret2
              exact ⟨by rw [encRes_good hgood]; rfl, HE6.below⟩
            · have hv1 : (i.imm != 0) = true := by rw [bne_iff_ne]; exact hv
              have hbad : encBad i = true := bad_3 i H3.out hv
              go_wp2
              go_quiet (fail)
              go_wp2
              go_ret2
              exact ⟨by rw [encRes_bad hbad]; rfl, below_drewN HE6.below _⟩
end Go.Proofs.YtadoaldnjnkhgaaGreatDoor
