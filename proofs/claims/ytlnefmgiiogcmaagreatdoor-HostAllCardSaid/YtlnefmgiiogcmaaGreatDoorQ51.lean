/- The walk of law3's HostAll at no instructions. An instruction that comes in by value: its five numbers. What LowerEnds' arguments hold: a row of instructions, a place. The walks of law3's longPlace and placed. law3's HostAll at any arguments. What the condition on eight errors gives, in a program that has no others. How a row is closed where the call has only made new blocks. Conditions: as each theorem states. -/
import Derived.Test.YtlnefmgiiogcmaaGreatDoorQ50
import Derived.Laws.AppendOwnNone
import Derived.Test.YtlnefmgiiogcmaaGreatDoorRows
import Derived.Test.YtlnefmgiiogcmaaGreatDoorQ04
import Derived.ProofKit
import Derived.OpenShut
import Derived.Lib.SmallJoins
import Derived.Test.YtlnefmgiiogcmaaGreatDoorQ18
import Derived.Deep.Slices
import Derived.Deep.MidRow
import Derived.Test.YtlnefmgiiogcmaaGreatDoorQ13
import Derived.WalkKit
import Derived.Below
import Derived.ChangeSame
import Derived.Carry
set_option linter.unusedVariables false
set_option linter.unusedSimpArgs false
namespace Go.Proofs.YtlnefmgiiogcmaaGreatDoor
open Go.RowKit
theorem wpList_append_nil {P : Program} {ops : Array Oper} {rest : List Oper} {op : Oper} {a : Act} {w : World} {Q : Exit → Act → World → Prop} (hgd : op.guard = none) (s x : Operand) (t : TypeId)
    (ho : op.op = .call { callee := .builtin .append, args := #[s, x], argTypes := #[t, t] })
    (e : TypeId) (i : TypeInfo) (z : Value) (size bytes : Nat) (ht : P.underlying t = some (.slice e)) (hi : P.info? e = some i) (hz : i.zero = some z)
    (hsize : i.size = size) (hby : i.bytes = bytes) (hzs : z.cells.size = size) (hsz : 0 < size) (hs : a.eval s = .slice none 0 0) (p : Option Addr) (c : Nat) (hx : a.eval x = .slice p 0 c) (hp : p = none → c = 0)
    (h : ∀ w', Below w.heap.size w w' → wpList P ops Q rest (a.put op.dst (.slice none 0 0)) w') : wpList P ops Q (op :: rest) a w := by
  cases p with
  | none =>
    obtain rfl := hp rfl
    exact wpList_append_own_none hgd s x t ho w.heap.size e i size ht hi _ 0 [] hs (World.ownsRow_nil _ _ _ _) hx (h w (Below.refl _ _))
  | some ad =>
    refine wpList_append_own (w := w) hgd s x t ho w.heap.size e i z size bytes ht hi hz hsize hby hzs hsz _ 0 [] hs (World.ownsRow_nil _ _ _ _) ad 0 c [] hx (by simp) (fun j u hu => by simp at hu) (fun u hu => by simp at hu) (by unfold maxLen; omega) (by omega) (Nat.le_refl _) ?_
    intro v' w' _ hg hv
    rw [hv.2 ⟨rfl, rfl⟩]
    exact h w' (grown_w hg)
set_option maxHeartbeats 8000000 in
set_option maxRecDepth 100000 in
theorem hlaw_nil {w : World} {pc mx lev : Int} {p : Option Addr} {cap : Nat} {L : List Value} {lp : Bool} {ad : Nat → Addr}
    (hS : Sents w ad) (hm : w.cell? ⟨8, 0, none⟩ = some (.int .i64 mx)) (hp : p = none → cap = 0) (hL : L.length = 45)
    (hLP : ∀ wx, Calls Tryz.prog 5 #[.agg L.toArray] wx fun e w' => e = .returned (.bool lp) ∧ Below wx.heap.size wx w') :
    Calls Tryz.prog 3 #[.int .u32 pc, .slice p 0 cap, .int .i64 lev, .agg L.toArray] w fun e w' => e = .returned (.bool true) ∧ Below w.heap.size w w' := by
  have hb0 := (Below.refl w.heap.size w).alloc (Nat.le_refl _) (.cells L.toArray 29)
  have HR0 := Lib.hid (range_new w L 29)
  have HB0 := Lib.hid hb0
  have HLO := Lib.hid (hosted_any (hS.below hb0) ((hb0.cell (World.block_lt_of_cell? _ _ hm)).trans hm))
  have HS := Lib.hid hS
  have HP := Lib.hid hp
  have HLP := Lib.hid hLP
  have hi0 := Tryz.infoPl
  rw [← hL] at hi0
  have HIN := Lib.hid hi0
  have HL := Lib.hid hL
  clear hb0 hS hm hLP hi0 hL hp
  go_enter Tryz.func3, Tryz.ntmps3
  go_upto_region 1 with fail
  generalize w.alloc (.cells L.toArray 29) = W0 at *
  go_wp2_with fail
  refine HLO.out.mono ?_
  rintro e w1 ⟨rfl, hb1⟩
  have HB1 := Lib.hid (HB0.out.trans (hb1.mono HB0.out.size))
  have HR1 := Lib.hid (rangeAt_below HR0.out hb1)
  clear HLO hb1 HR0 HB0
  cases lp with
  | true =>
    go_wp2_with (first
      | (refine wpList_load_want (by rfl) 29 (.tmp 7) rfl w.heap.size 0 rfl L _ HR1.out Tryz.underlying29 rfl HIN.out ?_)
      | (go_at_call 5; refine (HLP.out _).mono ?_; rintro e w2 ⟨rfl, hb2⟩; replace hb2 := Lib.hid hb2))
    go_ret
    exact ⟨rfl, HB1.out.trans (hb2.out.mono HB1.out.size)⟩
  | false =>
    by_cases hv0 : lev < 0
    · have hdv : decide (lev < 0) = true := decide_eq_true hv0
      go_wp2_with (first
        | (refine wpList_load_want (by rfl) 29 (.tmp 7) rfl w.heap.size 0 rfl L _ HR1.out Tryz.underlying29 rfl HIN.out ?_)
        | (go_at_call 5; refine (HLP.out _).mono ?_; rintro e w2 ⟨rfl, hb2⟩; replace hb2 := Lib.hid hb2))
      go_ret
      exact ⟨rfl, HB1.out.trans (hb2.out.mono HB1.out.size)⟩
    by_cases hv2 : 2 < lev
    · have hdv : decide (lev < 0) = false := decide_eq_false hv0
      have hdw : decide (2 < lev) = true := decide_eq_true hv2
      go_wp2_with (first
        | (refine wpList_load_want (by rfl) 29 (.tmp 7) rfl w.heap.size 0 rfl L _ HR1.out Tryz.underlying29 rfl HIN.out ?_)
        | (go_at_call 5; refine (HLP.out _).mono ?_; rintro e w2 ⟨rfl, hb2⟩; replace hb2 := Lib.hid hb2))
      go_ret
      exact ⟨rfl, HB1.out.trans (hb2.out.mono HB1.out.size)⟩
    have hdv : decide (lev < 0) = false := decide_eq_false hv0
    have hdw : decide (2 < lev) = false := decide_eq_false hv2
    clear hv0 hv2
    go_upto_region 4 with (first
      | (refine wpList_load_want (by rfl) 29 (.tmp 7) rfl w.heap.size 0 rfl L _ HR1.out Tryz.underlying29 rfl HIN.out ?_)
      | (go_at_call 5; refine (HLP.out _).mono ?_; rintro e w2 ⟨rfl, hb2⟩; replace hb2 := Lib.hid hb2))
    have HB2 := Lib.hid (HB1.out.trans (hb2.out.mono HB1.out.size))
    have HS2 := Lib.hid (HS.out.below HB2.out)
    obtain ⟨iI, hI1, hI2, hI3, hI4⟩ := info_parts Tryz.infoIns
    clear HB1 HR1 hb2 HLP hdv hdw
    go_wp2_with (at_builtin; refine wpList_append_nil rfl (.tmp 46) (.tmp 47) 23 rfl 69 iI (.agg #[.int .i64 0, .int .i64 0, .int .i64 0, .int .i64 0, .int .u32 0]) 5 40 Tryz.underlying23 hI1 hI2 hI3 hI4 rfl (by decide) rfl p cap rfl HP.out ?_)
    intro w3 hb3
    have HLW := Lib.hid (lower_nil (pc := pc) (vp := .slice none 0 0) (HS2.out.below hb3))
    have HB3 := Lib.hid (HB2.out.trans (hb3.mono HB2.out.size))
    clear hI1 hI2 hI3 hI4 hb3
    go_wp2_with fail
    refine HLW.out.mono ?_
    intro e w4 hpo
    unfold LowerPost at hpo
    rw [if_neg (by decide)] at hpo
    obtain ⟨rfl, hb4⟩ := hpo
    have hev : errV ad (regErr []) = .iface 182 (.pointer (some (ad 5))) := rfl
    rw [hev]
    have hbc := (Below.refl w4.heap.size w4).alloc (Nat.le_refl _) (.cells #[.int .u32 0, .int .i64 0, .slice none 0 0] 34)
    have HCB := Lib.hid (heap_alloc_new w4 (.cells #[.int .u32 0, .int .i64 0, .slice none 0 0] 34))
    have HB4 := Lib.hid (HB3.out.trans (((hb4.trans (hbc.mono hb4.size))).mono HB3.out.size))
    clear hbc hev hb4 HLW HB3
    go_upto_region 6 with fail
    generalize w4.alloc (.cells #[.int .u32 0, .int .i64 0, .slice none 0 0] 34) = W5 at *
    obtain ⟨q0, q1, q2, qf⟩ := plan_cells HCB.out
    clear q0 q1 qf
    go_wp2_with fail
    go_ret
    exact ⟨rfl, HB4.out⟩
end Go.Proofs.YtlnefmgiiogcmaaGreatDoor
namespace Go.Proofs.YtlnefmgiiogcmaaGreatDoor
open Go.Joins Go.ChangeShapes Go.WideShapes Go.RowKit Go.Deep
section
variable {H : Type} {enc : TypeId × Value → H} {P : Program} {w : World} {base : Nat} {spare : Nat → Bool} {held : Bool}
end
theorem cellsIns : Tryz.prog.cellsOf 69 = 5 := by kernel_rfl
end Go.Proofs.YtlnefmgiiogcmaaGreatDoor
namespace Go.Proofs.YtlnefmgiiogcmaaGreatDoor
open Go.Joins Go.ChangeShapes Go.WideShapes Go.RowKit Go.Deep
theorem cell_int {P : Program} {w : World} {r : Reach} {b : Nat} {t : TypeId} {k : IntKind} {v : Value} (ht : P.underlying t = some (.int k)) (h : Cell.okWide P w r b t v) : ∃ n, v = .int k n ∧ k.min ≤ n ∧ n ≤ k.max := by
  simp only [Cell.okWide, ht] at h
  cases v <;> simp_all [Cell.ok, IntKind.has]
theorem cell_bool {P : Program} {w : World} {r : Reach} {b : Nat} {t : TypeId} {v : Value} (ht : P.underlying t = some .bool) (h : Cell.okWide P w r b t v) : ∃ n, v = .bool n := by
  simp only [Cell.okWide, ht] at h
  cases v <;> simp_all [Cell.ok]
theorem cell_slice {P : Program} {w : World} {r : Reach} {b : Nat} {t e : TypeId} {v : Value} (ht : P.underlying t = some (.slice e)) (h : Cell.okWide P w r b t v) : v = .slice none 0 0 ∨ ∃ a o n c, v = .slice (some ⟨a, o, none⟩) n c := by
  simp only [Cell.okWide, ht] at h
  cases v <;> simp_all [Cell.ok]
  rename_i x n c
  cases x with
  | none =>
    left
    cases n <;> cases c <;> simp_all
  | some a =>
    right
    obtain ⟨bk, of, sp⟩ := a
    simp only [World.has] at h
    exact ⟨bk, of, by rw [h.2.2.2.1]⟩
theorem u32_of {n : Int} (h0 : IntKind.u32.min ≤ n) (h1 : n ≤ IntKind.u32.max) : Reg32 n := by
  have e0 : IntKind.u32.min = 0 := by decide
  have e1 : IntKind.u32.max = 4294967295 := by decide
  exact ⟨by omega, by omega⟩
section
variable {H : Type} {enc : TypeId × Value → H} {P : Program} {w : World} {base : Nat} {spare : Nat → Bool} {held : Bool}
theorem open_cells5 {t : TypeId} {f0 f1 f2 f3 f4 : Field} {fuel : Nat} {cs : List Value} {x : DataW H × List MemPlace} (hs : P.underlying t = some (.struct #[f0, f1, f2, f3, f4])) (hone : oneCellFields P #[f0, f1, f2, f3, f4] = true) (hC : P.cellsOf t = 5)
    (hf : DataW.trod enc P w base spare held fuel t cs = some x) :
    ∃ (v0 v1 v2 v3 v4 : Value) (y0 y1 y2 y3 y4 : DataW H × List MemPlace) (n : Nat), cs = [v0, v1, v2, v3, v4] ∧
      DataW.trod enc P w base spare held n f0.type [v0] = some y0 ∧ DataW.trod enc P w base spare held n f1.type [v1] = some y1 ∧ DataW.trod enc P w base spare held n f2.type [v2] = some y2 ∧ DataW.trod enc P w base spare held n f3.type [v3] = some y3 ∧ DataW.trod enc P w base spare held n f4.type [v4] = some y4 := by
  obtain ⟨xs, n, _, hx, hsz, hlen, hg⟩ := DataW.trod_struct hs hf
  match cs, hsz.trans hC with
  | [c0, c1, c2, c3, c4], _ =>
    obtain ⟨o0, k0⟩ := hone_of hone 0 f0 rfl
    obtain ⟨o1, k1⟩ := hone_of hone 1 f1 rfl
    obtain ⟨o2, k2⟩ := hone_of hone 2 f2 rfl
    obtain ⟨o3, k3⟩ := hone_of hone 3 f3 rfl
    obtain ⟨o4, k4⟩ := hone_of hone 4 f4 rfl
    match xs, hlen with
    | [y0, y1, y2, y3, y4], _ =>
      exact ⟨c0, c1, c2, c3, c4, y0, y1, y2, y3, y4, n, rfl, by simpa [Value.cells, o0, k0] using hg 0 f0 rfl, by simpa [Value.cells, o1, k1] using hg 1 f1 rfl, by simpa [Value.cells, o2, k2] using hg 2 f2 rfl, by simpa [Value.cells, o3, k3] using hg 3 f3 rfl, by simpa [Value.cells, o4, k4] using hg 4 f4 rfl⟩
end
instance : Inhabited InsN := ⟨⟨0, 0, 0, 0, 0⟩⟩
set_option maxRecDepth 100000 in
theorem ins_cells {H : Type} {enc : TypeId × Value → H} {w : World} {base fuel : Nat} {spare : Nat → Bool} {held : Bool} {cs : List Value} {x : DataW H × List MemPlace}
    (h : DataW.trod enc Tryz.prog w base spare held fuel 69 cs = some x) : ∃ i : InsN, cs = [.int .i64 i.op, .int .i64 i.s, .int .i64 i.t, .int .i64 i.d, .int .u32 i.imm] ∧ i.Fits := by
  obtain ⟨v0, v1, v2, v3, v4, y0, y1, y2, y3, y4, n, rfl, h0, h1, h2, h3, h4⟩ := open_cells5 Tryz.underlying69 (by kernel_rfl) cellsIns h
  obtain ⟨n0, e0, _, w0⟩ := DataW.trod_int Tryz.underlying3 h0
  obtain ⟨n1, e1, _, w1⟩ := DataW.trod_int Tryz.underlying3 h1
  obtain ⟨n2, e2, _, w2⟩ := DataW.trod_int Tryz.underlying3 h2
  obtain ⟨n3, e3, _, w3⟩ := DataW.trod_int Tryz.underlying3 h3
  obtain ⟨n4, e4, _, w4⟩ := DataW.trod_int Tryz.underlying22 h4
  simp at e0 e1 e2 e3 e4
  subst e0 e1 e2 e3 e4
  obtain ⟨a0, b0⟩ := bounds_i64 w0
  obtain ⟨a1, b1⟩ := bounds_i64 w1
  obtain ⟨a2, b2⟩ := bounds_i64 w2
  obtain ⟨a3, b3⟩ := bounds_i64 w3
  obtain ⟨a4, b4⟩ := bounds_u32 w4
  exact ⟨⟨n0, n1, n2, n3, n4⟩, rfl, ⟨a0, b0, a1, b1, a2, b2, a3, b3, a4, by show n4 < 4294967296; omega⟩⟩
theorem open_insrow {H : Type} {enc : TypeId × Value → H} {w : World} {base fuel : Nat} {spare : Nat → Bool} {held : Bool} {g o len cap : Nat} {x : DataW H × List MemPlace}
    (h : DataW.trod enc Tryz.prog w base spare held fuel 23 [.slice (some ⟨g, o, none⟩) len cap] = some x) : ∃ L : List InsN, L.length = len ∧ InsAt w g o L ∧ ∀ i ∈ L, i.Fits := by
  rcases open_slice Tryz.underlying23 h with ⟨h0, _⟩ | ⟨a, len2, cap2, m, n, D, Pl, e, hb, hl, hm, hmm, _, hx⟩
  · cases h0
  · cases e
    rw [cellsIns] at hx
    have hlm : len ≤ m := by rw [hmm]; split <;> omega
    obtain ⟨f, hf⟩ := choose_lt (α := InsN) (n := len) (p := fun i q => q.Fits ∧ ∀ c, c < 5 → w.cell? ⟨g, o + i * 5 + c, none⟩ = [Value.int .i64 q.op, .int .i64 q.s, .int .i64 q.t, .int .i64 q.d, .int .u32 q.imm][c]?) (fun i hi => by
      obtain ⟨cs', h1, h2⟩ := hx i (by omega)
      obtain ⟨q, rfl, hq⟩ := ins_cells h2
      refine ⟨q, hq, fun c hc => ?_⟩
      obtain ⟨_, _, hcell⟩ := World.cells?_some h1
      have := hcell c hc
      rw [add_add, Addr.add_mid, ← Nat.add_assoc] at this
      exact this)
    refine ⟨(List.range len).map f, by simp, ⟨fun j hj => ?_⟩, fun i hi => ?_⟩
    · have hj2 : j < len := by simpa using hj
      have e : ((List.range len).map f)[j] = f j := by simp
      rw [e]
      have := (hf j hj2).2
      exact ⟨this 0 (by omega), this 1 (by omega), this 2 (by omega), this 3 (by omega), this 4 (by omega)⟩
    · obtain ⟨j, hj, rfl⟩ := List.mem_map.1 hi
      exact (hf j (List.mem_range.1 hj)).1
abbrev typesPl : List TypeId := List.replicate 36 22 ++ [4, 22, 22, 22, 22, 22, 3, 27, 3]
theorem cellTypesPl : Tryz.prog.cellTypes Tryz.prog.depth 29 = some typesPl := by kernel_rfl
theorem cellsPl : Tryz.prog.cellsOf 29 = 45 := by kernel_rfl
theorem u32_ty {k : Nat} (h : k < 36 ∨ (37 ≤ k ∧ k < 42)) : typesPl[k % 45]? = some 22 := by
  have : ∀ k, k < 42 → (k < 36 ∨ 37 ≤ k) → typesPl[k % 45]? = some 22 := by decide +kernel
  exact this k (by omega) (by omega)
set_option maxRecDepth 100000 in
theorem open_place {w : World} {r : Reach} {b : Nat} {v : Value} (h : Value.okWide Tryz.prog w r b 29 v) :
    ∃ (f : Nat → Int) (sl : Bool) (ct wa : Int) (va : Value), v = .agg (((List.range 36).map (fun k => Value.int .u32 (f k)) ++ [.bool sl, .int .u32 (f 37), .int .u32 (f 38), .int .u32 (f 39), .int .u32 (f 40), .int .u32 (f 41), .int .i64 ct, va, .int .i64 wa]).toArray) ∧ (∀ k, Reg32 (f k)) ∧ (va = .slice none 0 0 ∨ ∃ a o n c, va = .slice (some ⟨a, o, none⟩) n c) := by
  simp only [Value.okWide, Tryz.underlying29] at h
  obtain ⟨cs, rfl, hsz, ts, hts, -, hc⟩ := h
  obtain rfl : ts = typesPl := Option.some.inj (hts.symm.trans cellTypesPl)
  rw [cellsPl] at hsz
  have hget : ∀ k, k < 45 → ∃ v, cs[k]? = some v := fun k hk => ⟨cs[k]'(by omega), by simp [hsz, hk]⟩
  let f : Nat → Int := fun k => match cs[k]? with | some (.int .u32 z) => if k < 36 ∨ (37 ≤ k ∧ k < 42) then z else 0 | _ => 0
  have hu : ∀ k, (k < 36 ∨ (37 ≤ k ∧ k < 42)) → cs[k]? = some (.int .u32 (f k)) ∧ Reg32 (f k) := by
    intro k hk
    obtain ⟨v, hv⟩ := hget k (by omega)
    obtain ⟨u, hu, ho⟩ := hc k v hv
    have hl : typesPl.length = 45 := by decide +kernel
    rw [hl, u32_ty hk] at hu
    cases hu
    obtain ⟨n, rfl, n0, n1⟩ := cell_int Tryz.underlying22 ho
    have e : f k = n := by simp only [f, hv, if_pos hk]
    rw [e]
    exact ⟨hv, u32_of n0 n1⟩
  have hl : typesPl.length = 45 := by decide +kernel
  have hr : ∀ k, Reg32 (f k) := by
    intro k
    by_cases hk : k < 36 ∨ (37 ≤ k ∧ k < 42)
    · exact (hu k hk).2
    · have : f k = 0 := by
        simp only [f]
        split
        · rw [if_neg hk]
        · rfl
      rw [this]
      exact r32_0
  obtain ⟨v36, h36⟩ := hget 36 (by omega)
  obtain ⟨u, hu36, ho36⟩ := hc 36 v36 h36
  rw [hl] at hu36
  obtain rfl : 4 = u := Option.some.inj hu36
  obtain ⟨sl, rfl⟩ := cell_bool Tryz.underlying4 ho36
  obtain ⟨v42, h42⟩ := hget 42 (by omega)
  obtain ⟨u, hu42, ho42⟩ := hc 42 v42 h42
  rw [hl] at hu42
  obtain rfl : 3 = u := Option.some.inj hu42
  obtain ⟨ct, rfl, _⟩ := cell_int Tryz.underlying3 ho42
  obtain ⟨v43, h43⟩ := hget 43 (by omega)
  obtain ⟨u, hu43, ho43⟩ := hc 43 v43 h43
  rw [hl] at hu43
  obtain rfl : 27 = u := Option.some.inj hu43
  obtain ⟨v44, h44⟩ := hget 44 (by omega)
  obtain ⟨u, hu44, ho44⟩ := hc 44 v44 h44
  rw [hl] at hu44
  obtain rfl : 3 = u := Option.some.inj hu44
  obtain ⟨wa, rfl, _⟩ := cell_int Tryz.underlying3 ho44
  refine ⟨f, sl, ct, wa, v43, ?_, hr, cell_slice Tryz.underlying27 ho43⟩
  refine congrArg Value.agg (Array.ext' (List.ext_getElem? fun k => ?_))
  rw [Array.getElem?_toList]
  show cs[k]? = ((List.range 36).map (fun k => Value.int .u32 (f k)) ++ [.bool sl, .int .u32 (f 37), .int .u32 (f 38), .int .u32 (f 39), .int .u32 (f 40), .int .u32 (f 41), .int .i64 ct, v43, .int .i64 wa])[k]?
  by_cases hk : k < 36
  · rw [(hu k (.inl hk)).1, List.getElem?_append_left (by simpa using hk)]
    simp [hk]
  · rw [List.getElem?_append_right (by simp; omega)]
    simp only [List.length_map, List.length_range]
    by_cases h45 : 45 ≤ k
    · rw [Array.getElem?_eq_none (by omega), List.getElem?_eq_none (by simp; omega)]
    · have hk2 : k = 36 ∨ k = 37 ∨ k = 38 ∨ k = 39 ∨ k = 40 ∨ k = 41 ∨ k = 42 ∨ k = 43 ∨ k = 44 := by omega
      rcases hk2 with rfl | rfl | rfl | rfl | rfl | rfl | rfl | rfl | rfl
      · exact h36
      · exact (hu 37 (by omega)).1
      · exact (hu 38 (by omega)).1
      · exact (hu 39 (by omega)).1
      · exact (hu 40 (by omega)).1
      · exact (hu 41 (by omega)).1
      · exact h42
      · exact h43
      · exact h44
end Go.Proofs.YtlnefmgiiogcmaaGreatDoor
namespace Go.Proofs.YtlnefmgiiogcmaaGreatDoor
open Go.RowKit
section
variable {x : Nat → Int} {hi lo pc0 nx st ca ep ba co ct wa p : Int} {sl : Bool}
set_option maxHeartbeats 4000000 in
set_option maxRecDepth 100000 in
theorem longPlace_any {w : World} {a : Option Addr} {n c : Nat} :
    Calls Tryz.prog 5 #[.agg #[.int .u32 (x 0), .int .u32 (x 1), .int .u32 (x 2), .int .u32 (x 3), .int .u32 (x 4), .int .u32 (x 5), .int .u32 (x 6), .int .u32 (x 7), .int .u32 (x 8), .int .u32 (x 9), .int .u32 (x 10), .int .u32 (x 11), .int .u32 (x 12), .int .u32 (x 13), .int .u32 (x 14), .int .u32 (x 15), .int .u32 (x 16), .int .u32 (x 17), .int .u32 (x 18), .int .u32 (x 19), .int .u32 (x 20), .int .u32 (x 21), .int .u32 (x 22), .int .u32 (x 23), .int .u32 (x 24), .int .u32 (x 25), .int .u32 (x 26), .int .u32 (x 27), .int .u32 (x 28), .int .u32 (x 29), .int .u32 (x 30), .int .u32 (x 31), .int .u32 hi, .int .u32 lo, .int .u32 pc0, .int .u32 nx, .bool sl, .int .u32 st, .int .u32 ca, .int .u32 ep, .int .u32 ba, .int .u32 co, .int .i64 ct, .slice a n c, .int .i64 wa]] w fun e w' => e = .returned (.bool (decide (200 < n) || decide (ct < 0) || decide (1099511627776 < ct))) ∧ Below w.heap.size w w' := by
  have hb := (Below.refl w.heap.size w).alloc (Nat.le_refl _) (.cells #[.int .u32 (x 0), .int .u32 (x 1), .int .u32 (x 2), .int .u32 (x 3), .int .u32 (x 4), .int .u32 (x 5), .int .u32 (x 6), .int .u32 (x 7), .int .u32 (x 8), .int .u32 (x 9), .int .u32 (x 10), .int .u32 (x 11), .int .u32 (x 12), .int .u32 (x 13), .int .u32 (x 14), .int .u32 (x 15), .int .u32 (x 16), .int .u32 (x 17), .int .u32 (x 18), .int .u32 (x 19), .int .u32 (x 20), .int .u32 (x 21), .int .u32 (x 22), .int .u32 (x 23), .int .u32 (x 24), .int .u32 (x 25), .int .u32 (x 26), .int .u32 (x 27), .int .u32 (x 28), .int .u32 (x 29), .int .u32 (x 30), .int .u32 (x 31), .int .u32 hi, .int .u32 lo, .int .u32 pc0, .int .u32 nx, .bool sl, .int .u32 st, .int .u32 ca, .int .u32 ep, .int .u32 ba, .int .u32 co, .int .i64 ct, .slice a n c, .int .i64 wa] 29)
  have HB := Lib.hid hb
  clear hb
  by_cases h1 : 200 < n
  · have e1 : decide ((200 : Int) < (n : Int)) = true := decide_eq_true (by omega)
    have hv : (decide (200 < n) || decide (ct < 0) || decide (1099511627776 < ct)) = true := by rw [decide_eq_true h1]; rfl
    rw [hv]
    have e2 : (200 : Int) < (n : Int) := by omega
    clear h1 hv
    go_enter Tryz.func5, Tryz.ntmps5
    go_wp2
    go_ret
    exact ⟨rfl, HB.out⟩
  · have e1 : decide ((200 : Int) < (n : Int)) = false := decide_eq_false (by omega)
    have e2 : decide (200 < n) = false := decide_eq_false h1
    rw [e2]
    clear h1 e2
    cases h2 : decide (ct < 0) with
    | true =>
      have e3 : ct < 0 := of_decide_eq_true h2
      go_enter Tryz.func5, Tryz.ntmps5
      go_wp2
      go_ret
      exact ⟨rfl, HB.out⟩
    | false =>
      cases h3 : decide (1099511627776 < ct) with
      | true =>
        go_enter Tryz.func5, Tryz.ntmps5
        go_wp2
        go_ret
        exact ⟨rfl, HB.out⟩
      | false =>
        go_enter Tryz.func5, Tryz.ntmps5
        go_wp2
        go_ret
        exact ⟨rfl, HB.out⟩
end
end Go.Proofs.YtlnefmgiiogcmaaGreatDoor
namespace Go.Proofs.YtlnefmgiiogcmaaGreatDoor
open Go.RowKit
def placeL (f : Nat → Int) (sl : Bool) (ct wa : Int) (va : Value) : List Value := (List.range 36).map (fun k => Value.int .u32 (f k)) ++ [.bool sl, .int .u32 (f 37), .int .u32 (f 38), .int .u32 (f 39), .int .u32 (f 40), .int .u32 (f 41), .int .i64 ct, va, .int .i64 wa]
theorem placeL_len (f : Nat → Int) (sl : Bool) (ct wa : Int) (va : Value) : (placeL f sl ct wa va).length = 45 := by simp [placeL]
def placeS (f : Nat → Int) (sl : Bool) (ct : Int) : StF := ⟨f, f 32, f 33, f 34, f 35, sl, f 37, f 38, f 39, f 40, f 41, ct⟩
theorem placeL_at (f : Nat → Int) (sl : Bool) (ct wa : Int) (va : Value) (k : Nat) (hk : k < 43) : (placeL f sl ct wa va).toArray[k]? = some (stG (placeS f sl ct) k) := by
  rw [List.getElem?_toArray]
  unfold placeL
  by_cases h : k < 32
  · rw [List.getElem?_append_left (by simp; omega)]
    unfold stG
    rw [if_pos h]
    simp [show k < 36 by omega, placeS]
  · have hk2 : k = 32 ∨ k = 33 ∨ k = 34 ∨ k = 35 ∨ k = 36 ∨ k = 37 ∨ k = 38 ∨ k = 39 ∨ k = 40 ∨ k = 41 ∨ k = 42 := by omega
    rcases hk2 with rfl | rfl | rfl | rfl | rfl | rfl | rfl | rfl | rfl | rfl | rfl <;> rfl
set_option maxRecDepth 100000 in
theorem hostAll_any {w : World} {pc mx ct wa lev : Int} {v1 va : Value} {f : Nat → Int} {sl : Bool} {ad : Nat → Addr} (hS : Sents w ad) (hm : w.cell? ⟨8, 0, none⟩ = some (.int .i64 mx)) (p0 : 0 ≤ pc) (p1 : pc < 4294967296) (hf : ∀ k, Reg32 (f k))
    (h1 : (∃ p cap, v1 = .slice p 0 cap ∧ (p = none → cap = 0)) ∨ ∃ g o cap l, v1 = .slice (some ⟨g, o, none⟩) l.length cap ∧ 0 < l.length ∧ InsAt w g o l ∧ ∀ i ∈ l, i.Fits)
    (hw : va = .slice none 0 0 ∨ ∃ b o us cap, va = .slice (some ⟨b, o, none⟩) us.length cap ∧ us.length ≤ cap ∧ WsOK us ∧ ∀ k (h : k < us.length), w.cell? ⟨b, o + k, none⟩ = some (.int .u32 us[k])) :
    Calls Tryz.prog 3 #[.int .u32 pc, v1, .int .i64 lev, .agg (placeL f sl ct wa va).toArray] w fun e w' => e = .returned (.bool true) ∧ Below w.heap.size w w' := by
  obtain ⟨p, c, us, rfl, hus, hN⟩ : ∃ (p : Option Addr) (c : Nat) (us : List Int), va = .slice p us.length c ∧ WsOK us ∧ (us.length ≤ 200 → ∀ wx, Below w.heap.size w wx → Calls Tryz.prog 15 #[.slice p us.length c] wx fun e w' => MadeP wx (padW us) (fun _ => false) 0 e w') := by
    rcases hw with rfl | ⟨b, o, us, cap, rfl, hcap, h1, h2⟩
    · exact ⟨none, 0, [], rfl, fun z hz => (by cases hz), fun _ wx _ => newP_nil wx⟩
    · exact ⟨some ⟨b, o, none⟩, cap, us, rfl, h1, fun hl wx hb => newP_some b o cap (min us.length 4096) us (by omega) (by omega) hcap h1 wx (fun k hk => (hb.cell (World.block_lt_of_cell? _ _ (h2 k hk))).trans (h2 k hk))⟩
  have hLP := fun wx : World => longPlace_any (w := wx) (x := f) (hi := f 32) (lo := f 33) (pc0 := f 34) (nx := f 35) (sl := sl) (st := f 37) (ca := f 38) (ep := f 39) (ba := f 40) (co := f 41) (ct := ct) (wa := wa) (a := p) (n := us.length) (c := c)
  rcases h1 with ⟨q, cap, rfl, hq⟩ | ⟨g, o, cap, l, rfl, hl0, hl, hfit⟩
  · exact hlaw_nil hS hm hq (placeL_len f sl ct wa _) hLP
  · have hlen : (decide (200 < us.length) || decide (ct < 0) || decide (1099511627776 < ct)) = false → us.length ≤ 200 ∧ 0 ≤ ct ∧ ct ≤ 1099511627776 := by
      intro h
      simp only [Bool.or_eq_false_iff, decide_eq_false_iff_not] at h
      omega
    have hup : ∀ k, Reg32 (updR f 0 0 k) := by
      intro k
      unfold updR
      split
      · exact r32_0
      · exact hf k
    refine hlaw_any (s := placedS (placeS f sl ct) pc) (ws := padW us) (wt := pageW wa) hS hm hl hl0 hfit p0 p1 (placeL_len f sl ct wa _) hLP (fun wx => placed_any (by simp [placeL_len]) (placeL_at f sl ct wa _) p0 p1) (fun hp wx hb => ?_) ?_ rfl rfl rfl rfl (fun hp => (hlen hp).2.1) (fun hp => (hlen hp).2.2)
    · exact memory_any (by simp [placeL_len]) rfl rfl (hS.below hb) (fun wy hb2 => hN (hlen hp).1 wy (hb.trans (hb2.mono hb.size)))
    · intro k
      show Reg32 (if k < 32 then updR f 0 0 k else if k = 32 then f 32 else if k = 33 then f 33 else 0)
      split
      · exact hup k
      split
      · exact hf 32
      split
      · exact hf 33
      · exact r32_0
end Go.Proofs.YtlnefmgiiogcmaaGreatDoor
namespace Go.Proofs.YtlnefmgiiogcmaaGreatDoor
open Go.ChangeShapes Go.WideShapes Go.ChangeAt Go.RowKit
def sentD (text : List UInt8) : DataW Unit := .iface "*errors.errorString" (.ptr (.agg [.lit (.string text)]))
set_option maxRecDepth 100000 in
theorem sents_of (W : World) : ∀ (L : List (String × List UInt8)) (ps : List MemPlace), DataW.LaidVars Tryz.prog W (L.map fun x => (x.1, sentD x.2)) ps →
    (∀ b off, MemPlace.cell b off ∈ ps → (∃ c t, W.heap[b]? = some (.cells c t (0, 0))) ∧ ∀ u v, W.cell? ⟨b, off, none⟩ = some (.iface u v) → Value.okWide Tryz.prog W .any 0 u v) →
    (∀ x ∈ L, ∀ g t, Tryz.prog.globalNamed x.1 = some g → (Tryz.prog.globals[g]?).map (·.type) = some t → t = 36) →
    ∃ ls : List Addr, (∀ (k : Nat) (x : String × List UInt8), L[k]? = some x → ∃ a, ls[k]? = some a ∧ W.var? Tryz.prog x.1 = some #[.iface 182 (.pointer (some a))]) ∧ (ls.map fun a => MemPlace.cell a.block a.off).Sublist ps := by
  intro L
  induction L with
  | nil =>
    intro ps h _ _
    exact ⟨[], fun k x hx => by simp at hx, by simp⟩
  | cons x r ih =>
    intro ps h hrows hty
    obtain ⟨g, t, cs, fuel, p, q, hg, ht, hv, hd, hr, e⟩ := h
    obtain rfl := hty x (by simp) g t hg ht
    obtain ⟨ls, h1, h2⟩ := ih q hr (fun b off hm => hrows b off (by rw [e]; simp [hm])) (fun y hy => hty y (by simp [hy]))
    obtain ⟨l⟩ := cs
    have ok : ∀ u v, l = [.iface u v] → Value.okWide Tryz.prog W .any 0 u v := fun u v el => by
      subst el
      exact (hrows g 0 (by rw [e]; simp [MemPlace.row])).2 u v (by simpa using World.var?_cell hg hv 0)
    obtain ⟨a, s, rfl, _, _, _, rfl⟩ := errorString_of_trod Tryz.underlying36 rowES Tryz.underlying182 Tryz.underlying199 rfl rfl Tryz.underlying9 cellsES cellsStr hd ok
    refine ⟨a :: ls, ?_, ?_⟩
    · intro k y hy
      cases k with
      | zero =>
        simp at hy
        subst hy
        exact ⟨a, by simp, hv⟩
      | succ k =>
        simp at hy
        obtain ⟨b, hb1, hb2⟩ := h1 k y hy
        exact ⟨b, by simpa using hb1, hb2⟩
    · rw [e]
      simp only [List.map_cons, MemPlace.row]
      simp
      refine List.Sublist.cons _ ?_
      exact List.Sublist.cons_cons _ h2
def eight : List (String × List UInt8) := [("changeling/api.ErrBound", [99, 104, 97, 110, 103, 101, 108, 105, 110, 103, 58, 32, 98, 111, 117, 110, 100]), ("changeling/api.ErrShape", [99, 104, 97, 110, 103, 101, 108, 105, 110, 103, 58, 32, 115, 104, 97, 112, 101]), ("changeling/api.ErrKind", [99, 104, 97, 110, 103, 101, 108, 105, 110, 103, 58, 32, 107, 105, 110, 100]), ("changeling/api.ErrNone", [99, 104, 97, 110, 103, 101, 108, 105, 110, 103, 58, 32, 110, 111, 110, 101]), ("changeling/api.ErrExist", [99, 104, 97, 110, 103, 101, 108, 105, 110, 103, 58, 32, 101, 120, 105, 115, 116]), ("changeling/api.ErrFull", [99, 104, 97, 110, 103, 101, 108, 105, 110, 103, 58, 32, 102, 117, 108, 108]), ("changeling/api.ErrAlign", [99, 104, 97, 110, 103, 101, 108, 105, 110, 103, 58, 32, 97, 108, 105, 103, 110]), ("changeling/api.ErrFar", [99, 104, 97, 110, 103, 101, 108, 105, 110, 103, 58, 32, 102, 97, 114])]
theorem gErrShape : Tryz.prog.globalNamed "changeling/api.ErrShape" = some 1 := by kernel_rfl
theorem gErrNone : Tryz.prog.globalNamed "changeling/api.ErrNone" = some 3 := by kernel_rfl
theorem gErrExist : Tryz.prog.globalNamed "changeling/api.ErrExist" = some 6 := by kernel_rfl
theorem gErrFull : Tryz.prog.globalNamed "changeling/api.ErrFull" = some 5 := by kernel_rfl
theorem gErrAlign : Tryz.prog.globalNamed "changeling/api.ErrAlign" = some 2 := by kernel_rfl
theorem gErrFar : Tryz.prog.globalNamed "changeling/api.ErrFar" = some 7 := by kernel_rfl
theorem eight_types : ∀ x ∈ eight, ((Tryz.prog.globalNamed x.1).bind fun g => (Tryz.prog.globals[g]?).map (·.type)) = some 36 := by
  intro x hx
  simp only [eight, List.mem_cons, List.not_mem_nil, or_false] at hx
  rcases hx with rfl | rfl | rfl | rfl | rfl | rfl | rfl | rfl <;> kernel_rfl
theorem sents8_of_laid {W : World} (h : laidMet Tryz.prog (eight.map fun x => (x.1, sentD x.2)) W) : ∃ ad : Nat → Addr, Sents W ad := by
  obtain ⟨ps, hl, hnd, hrows⟩ := h
  obtain ⟨ls, h1, h2⟩ := sents_of W eight ps hl hrows (fun x hx g t hg ht => by
    have := eight_types x hx
    rw [hg] at this
    simp only [Option.bind_some] at this
    exact Option.some.inj (ht.symm.trans this))
  have hn : (ls.map fun a => MemPlace.cell a.block a.off).Nodup := h2.nodup hnd
  have get : ∀ k x, eight[k]? = some x → W.var? Tryz.prog x.1 = some #[.iface 182 (.pointer (some (ls.getD k default)))] ∧ k < ls.length := fun k x hx => by
    obtain ⟨a, ha, hv⟩ := h1 k x hx
    have : ls.getD k default = a := by simp [ha]
    rw [this]
    exact ⟨hv, (List.getElem?_eq_some_iff.1 ha).1⟩
  refine ⟨fun k => ls.getD (match k with | 1 => 0 | 2 => 1 | 3 => 2 | 5 => 3 | 6 => 4 | 7 => 5 | 8 => 6 | 9 => 7 | _ => 8) default, ?_, ?_, ?_, ?_, ?_, ?_, ?_, ?_⟩
  · simpa using World.var?_cell gErrBound (get 0 _ rfl).1 0
  · simpa using World.var?_cell gErrShape (get 1 _ rfl).1 0
  · simpa using World.var?_cell gErrKind (get 2 _ rfl).1 0
  · simpa using World.var?_cell gErrNone (get 3 _ rfl).1 0
  · simpa using World.var?_cell gErrExist (get 4 _ rfl).1 0
  · simpa using World.var?_cell gErrFull (get 5 _ rfl).1 0
  · simpa using World.var?_cell gErrAlign (get 6 _ rfl).1 0
  · simpa using World.var?_cell gErrFar (get 7 _ rfl).1 0
end Go.Proofs.YtlnefmgiiogcmaaGreatDoor
namespace Go.Proofs.YtlnefmgiiogcmaaGreatDoor
open Go.RowKit Go.WideShapes Go.ChangeShapes Go.ChangeAt
section
variable {H : Type} {enc : TypeId × Value → H} {P : Program}
theorem post_of_below {f : Func} {s : ChangeSpec} {apart fresh handsOn again : Bool} {W W' : World} {args : Array Value} {v : Value} {ds gs : List (DataW H)} {before pa pv : List MemPlace}
    (hW : DataW.Whole enc P f.params.toList s.vars apart W args.toList ds gs before)
    (hres : ∀ (b : Nat) (sp : Nat → Bool) (hd : Bool), DataW.TrodAll enc P W' b sp hd f.resultTypes.toList (v.resultList f.resultTypes.size) (s.fn H (ds ++ gs)).results [])
    (hargs : ∀ sp : Nat → Bool, (∀ p ∈ before, sp p.block = true) → DataW.TrodAll enc P W' 0 sp true f.params.toList args.toList (s.fn H (ds ++ gs)).args pa)
    (hvars : ∀ sp : Nat → Bool, (∀ p ∈ before, sp p.block = true) → DataW.TrodVars enc P W' sp s.vars (s.fn H (ds ++ gs)).vars pv)
    (hps : before = pa ++ pv) (hb : Below W.heap.size W W')
    (hok : ∀ (j : Nat) (t : TypeId) (r : Value), f.resultTypes[j]? = some t → (v.resultList f.resultTypes.size)[j]? = some r → Value.okWide P W' .any 0 t r) :
    s.post enc P f apart fresh handsOn again W args v W' := by
  have hlt : ∀ p ∈ before, p.block < W.heap.size := fun p hp => hW.lt p hp
  have hold : ∀ p ∈ before, (fun b => decide (b < W.heap.size)) p.block = true := fun p hp => by simpa using hlt p hp
  refine ⟨ds, gs, before, [], pa, pv, hW, hres _ _ _, hargs _ hold, hvars _ hold, World.keptBut_mono (fun p hp => ⟨hp, ?_⟩) (hb.frame (· ∈ before)), fun _ => ?_⟩
  · rw [hps, List.mem_append] at hp
    exact Or.inr hp
  · obtain ⟨_, _, _, _, _, hz, hn⟩ := hW
    refine ⟨hok, _, _, ([] ++ pa) ++ pv, ⟨[] ++ pa, pv, trodAll_append (hargs _ (fun _ _ => rfl)) (hres _ _ _), hvars _ (fun _ _ => rfl), rfl, ?_, ?_⟩, ?_⟩
    · intro b off hp
      have hin : MemPlace.cell b off ∈ before := by rw [hps]; simpa using hp
      rw [hb.frozen (hlt _ hin)]
      exact hz b off hin
    · intro ha
      have := hn ha
      rw [hps] at this
      simpa using this
    · intro p hp _
      rw [hps]
      simpa using hp
theorem trodAll_stays (hl : laidOutB P = true) {W W' : World} (hb : Below W.heap.size W W') (sp : Nat → Bool) : ∀ (ts : List TypeId) (vs : List Value) (ds : List (DataW H)) (p : List MemPlace),
    (∀ t ∈ ts, P.readableRec t = true ∧ t < P.types.size) → DataW.TrodAll enc P W 0 (fun _ => true) true ts vs ds p → (∀ x ∈ p, x.block < W.heap.size) → (∀ x ∈ p, sp x.block = true) →
    DataW.TrodAll enc P W' 0 sp true ts vs ds p := by
  intro ts
  induction ts with
  | nil =>
    intro vs ds p _ h _ _
    obtain ⟨rfl, rfl, rfl⟩ := trodAll_nil h
    exact trodAll_mk0
  | cons t r ih =>
    intro vs ds p hr h hlt hsp
    obtain ⟨v, vs', d, ds', p1, p2, rfl, rfl, rfl, h1, h2⟩ := trodAll_cons h
    obtain ⟨a, b⟩ := hr t (by simp)
    refine trodAll_cons_mk (WideElems.Trod_stays hl a b h1 (fun x hx => hb.same (hlt x (by simp [hx]))) (fun x hx => hsp x (by simp [hx]))) (ih vs' ds' p2 (fun t' ht' => hr t' (by simp [ht'])) h2 (fun x hx => hlt x (by simp [hx])) (fun x hx => hsp x (by simp [hx])))
theorem law_post {f : Func} {s : ChangeSpec} {W W' : World} {args : Array Value} {ds gs : List (DataW H)} {before : List MemPlace} {tb : TypeId} (hl : laidOutB P = true)
    (hW : DataW.Whole enc P f.params.toList s.vars false W args.toList ds gs before) (hv : s.vars = []) (hfn : s.fn H (ds ++ []) = { results := [.lit (.bool true)], args := ds })
    (hrb : (f.params.toList.all fun t => P.readableRec t && decide (t < P.types.size)) = true) (htb : P.underlying tb = some .bool) (hres : f.resultTypes = #[tb]) (hb : Below W.heap.size W W') :
    s.post enc P f false true false false W args (.bool true) W' := by
  have hr : ∀ t ∈ f.params.toList, P.readableRec t = true ∧ t < P.types.size := fun t ht => by simpa using List.all_eq_true.1 hrb t ht
  have hW2 := hW
  obtain ⟨p, q, hA, hV, hps, hz, hn⟩ := hW2
  rw [hv] at hV
  obtain ⟨rfl, rfl⟩ := trodVars_none hV
  have hlt : ∀ x ∈ p, x.block < W.heap.size := fun x hx => hW.lt x (by rw [hps]; simp [hx])
  refine post_of_below (pa := p) (pv := []) hW ?_ ?_ ?_ hps hb ?_
  · intro b sp hd
    rw [hfn, hres]
    exact trodAll_mk1 (shut_bool htb true)
  · intro sp hsp
    rw [hfn]
    exact trodAll_stays hl hb sp _ _ _ _ hr hA hlt (fun x hx => hsp x (by rw [hps]; simp [hx]))
  · intro sp hsp
    rw [hfn, hv]
    rfl
  · exact ok_one hres rfl (okWide_bool_mk htb true)
end
end Go.Proofs.YtlnefmgiiogcmaaGreatDoor
