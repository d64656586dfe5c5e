/- The walks of ir's Load where none waits or none may be, and of May. The walk of ir's Wait: a store is laid behind the others. The walks of ir's do at a store. Plain: a code's memory as stores that wait. No program in sight. ir's do at any op that does not leave. No walk of its own. Plain: an op's value is a word. No program in sight. The walk of ir's Where at any kind of op. Plain: one step of a code whose stores wait. No program in sight. Plain: a plan's rows end as its ops do. No program in sight. Plain: a plan that was made ends as its ops do, and is well. No program in sight. Plain: a plan's row, read ahead of writing, with stores that wait. No program in sight. Conditions: as each theorem states. -/
import Derived.Test.YtlnefmgiiogcmaaGreatDoorQ24
import Derived.Test.YtlnefmgiiogcmaaGreatDoorQ20
import Derived.Test.YtlnefmgiiogcmaaGreatDoorQ23
import Derived.Test.YtlnefmgiiogcmaaGreatDoorQ21
import Derived.Test.YtlnefmgiiogcmaaGreatDoorQ22
import Derived.Test.YtlnefmgiiogcmaaGreatDoorQ12
import Derived.Test.YtlnefmgiiogcmaaGreatDoorQ01
set_option linter.unusedVariables false
set_option linter.unusedSimpArgs false
namespace Go.Proofs.YtlnefmgiiogcmaaGreatDoor
open Go.RowKit
section
variable {w : World} {r bb mw mh n : Nat} {ws : List Int} {wt ht : Nat → Bool}
set_option maxHeartbeats 4000000 in
set_option maxRecDepth 100000 in
theorem loadP_nil (h : RamP w r bb mw mh ws wt ht n) {mb : Nat} {X : Regs} (hm : MpB w mb X (.pointer (some ⟨r, 0, none⟩)) (.slice none 0 0))
    (a k : Nat) (hk : k = 1 ∨ k = 2 ∨ k = 4) (hr : reach (a : Int) k = true) (b : Int) (hb : b = (k : Int) ∨ b = -(k : Int)) (mx : max b (-b) = (k : Int)) :
    Calls Tryz.prog 58 #[.pointer (some ⟨mb, 0, none⟩), .int .u32 (a : Int), .int .i64 b] w fun e w' => e = .returned (.tuple #[.int .u32 (wideZ (loadN ws a k) k (decide (b < 0))), .bool true]) ∧ w = w' := by
  have hld := ramLoad_yes h a k hk hr false
  rw [wide_load ws a k hk] at hld
  have HLD := Lib.hid hld
  have hx : Reg32 (loadN ws a k) := by
    rw [← partG_zero ws [] a k]
    exact gather_u32 _ (fun i => partG_ok _ _ _ _ _ i) k hk
  have HFIN := Lib.hid (wide_any (loadN ws a k) hx k hk (decide (b < 0)))
  have m64 : w.cell? ⟨mb, 64, none⟩ = some (.pointer (some ⟨r, 0, none⟩)) := hm.cell (show 64 < 66 by decide)
  have m65 : w.cell? ⟨mb, 65, none⟩ = some (.slice none 0 0) := hm.cell (show 65 < 66 by decide)
  have b0 : -4 ≤ b ∧ b ≤ 4 := by rcases hb with e | e <;> rcases hk with f | f | f <;> subst f <;> omega
  obtain ⟨b0, b1⟩ := b0
  have hwn : IntKind.i64.wrap (-b) = -b := IntWalk.i64_in _ ⟨by omega, by omega⟩
  have hkI : (1 : Int) ≤ (k : Int) ∧ (k : Int) ≤ 4 := by rcases hk with rfl | rfl | rfl <;> decide
  obtain ⟨k0, k1⟩ := hkI
  obtain ⟨x0, x1⟩ := hx
  clear h hm hr hld hk hb
  generalize loadN ws a k = v at *
  go_enter Tryz.func58, Tryz.ntmps58
  go_wp2_with fail
  refine HLD.out.mono ?_
  rintro e w1 ⟨rfl, rfl⟩
  clear HLD
  go_wp2_with fail
  clear m64 hwn mx
  go_loopw [33, 9] (fun i x wr => ∃ p : Nat, p ≤ k ∧ i = .int .i64 (p : Int) ∧ x = .int .u32 v ∧ wr = w) (fun i _ _ => k - (intOf i).toNat)
  case atStart => exact ⟨0, Nat.zero_le _, rfl, rfl, rfl⟩
  case round =>
    obtain ⟨p, hp, rfl, rfl, rfl⟩ := hrel
    by_cases hlt : p < k
    · have hpI : (p : Int) < (k : Int) := by omega
      have HLT := Lib.hid hlt
      clear hlt
      go_wp2_with fail
      go_loopw [41, 9] (fun i x wk => i = .int .i64 0 ∧ x = .int .u32 v ∧ wk = wr) (fun _ _ _ => 0)
      case atStart => exact ⟨rfl, rfl, rfl⟩
      case round =>
        obtain ⟨rfl, rfl, rfl⟩ := hrel
        go_wp2_with fail
        go_roundw
        case rel => first | exact ⟨p + 1, HLT.out, by go_num, rfl, rfl⟩ | exact ⟨p + 1, HLT.out, by go_num, trivial, trivial⟩ | (refine ⟨p + 1, HLT.out, by go_num, ?_⟩; simp)
        case measure => have := HLT.out; go_light; simp [intOf]; omega
    · obtain rfl : p = k := by omega
      have hd : decide ((p : Int) < (p : Int)) = false := decide_eq_false (by omega)
      go_wp2_with fail
      refine (HFIN.out _).mono ?_
      rintro e w1 ⟨rfl, rfl⟩
      go_wp2_with fail
      go_ret2
      exact ⟨rfl, rfl⟩
theorem loadP_no (h : RamP w r bb mw mh ws wt ht n) {mb : Nat} {X : Regs} {wv : Value} (hm : MpB w mb X (.pointer (some ⟨r, 0, none⟩)) wv)
    (a : Int) (ha : Reg32 a) (k : Nat) (hk : k = 1 ∨ k = 2 ∨ k = 4) (hr : reach a k = false) (b : Int) (hb : b = (k : Int) ∨ b = -(k : Int)) (mx : max b (-b) = (k : Int)) {ad : Nat → Addr} (hS : Sents w ad) :
    Calls Tryz.prog 58 #[.pointer (some ⟨mb, 0, none⟩), .int .u32 a, .int .i64 b] w fun e w' => e = .returned (.tuple #[.int .u32 0, .bool false]) ∧ w = w' := by
  have HLD := Lib.hid (ramLoad_no h a k hk ha hr hS false)
  have m64 : w.cell? ⟨mb, 64, none⟩ = some (.pointer (some ⟨r, 0, none⟩)) := hm.cell (show 64 < 66 by decide)
  have b0 : -4 ≤ b ∧ b ≤ 4 := by rcases hb with e | e <;> rcases hk with f | f | f <;> subst f <;> omega
  obtain ⟨b0, b1⟩ := b0
  have hwn : IntKind.i64.wrap (-b) = -b := IntWalk.i64_in _ ⟨by omega, by omega⟩
  clear h hm hr hk hb hS ha
  go_enter Tryz.func58, Tryz.ntmps58
  go_wp2_with fail
  refine HLD.out.mono ?_
  rintro e w1 ⟨⟨x, rfl⟩, rfl⟩
  clear HLD
  go_wp2_with fail
  go_ret2
  exact ⟨rfl, rfl⟩
theorem mayP_yes (h : RamP w r bb mw mh ws wt ht n) {mb : Nat} {X : Regs} {wv : Value} (hm : MpB w mb X (.pointer (some ⟨r, 0, none⟩)) wv)
    (a k : Nat) (hk : k = 1 ∨ k = 2 ∨ k = 4) (hr : reach (a : Int) k = true) :
    Calls Tryz.prog 59 #[.pointer (some ⟨mb, 0, none⟩), .int .u32 (a : Int), .int .i64 (k : Int)] w fun e w' => e = .returned (.bool (!wt (a / 256))) ∧ w = w' := by
  have HLD := Lib.hid (ramLoad_yes h a k hk hr false)
  have ha : (a : Int) < 16384 := (of_decide_eq_true hr).2
  have hwa := watched_any h (a : Int) (by omega) ha
  rw [show (a : Int).toNat = a from rfl] at hwa
  have HWA := Lib.hid hwa
  have m64 : w.cell? ⟨mb, 64, none⟩ = some (.pointer (some ⟨r, 0, none⟩)) := hm.cell (show 64 < 66 by decide)
  clear h hm hr hk hwa
  generalize wideZ (loadN ws a k) k false = v at *
  generalize wt (a / 256) = q at *
  go_enter Tryz.func59, Tryz.ntmps59
  go_wp2_with fail
  refine HLD.out.mono ?_
  rintro e w1 ⟨rfl, rfl⟩
  go_wp2_with fail
  refine HWA.out.mono ?_
  rintro e w2 ⟨rfl, rfl⟩
  go_wp2_with fail
  go_ret
  exact ⟨rfl, rfl⟩
theorem mayP_no (h : RamP w r bb mw mh ws wt ht n) {mb : Nat} {X : Regs} {wv : Value} (hm : MpB w mb X (.pointer (some ⟨r, 0, none⟩)) wv)
    (a : Int) (ha : Reg32 a) (k : Nat) (hk : k = 1 ∨ k = 2 ∨ k = 4) (hr : reach a k = false) {ad : Nat → Addr} (hS : Sents w ad) :
    Calls Tryz.prog 59 #[.pointer (some ⟨mb, 0, none⟩), .int .u32 a, .int .i64 (k : Int)] w fun e w' => e = .returned (.bool false) ∧ w = w' := by
  have HLD := Lib.hid (ramLoad_no h a k hk ha hr hS false)
  have m64 : w.cell? ⟨mb, 64, none⟩ = some (.pointer (some ⟨r, 0, none⟩)) := hm.cell (show 64 < 66 by decide)
  clear h hm hr hk hS ha
  go_enter Tryz.func59, Tryz.ntmps59
  go_wp2_with fail
  refine HLD.out.mono ?_
  rintro e w1 ⟨⟨x, rfl⟩, rfl⟩
  clear HLD
  go_wp2_with fail
  go_ret
  exact ⟨rfl, rfl⟩
end
end Go.Proofs.YtlnefmgiiogcmaaGreatDoor
namespace Go.Proofs.YtlnefmgiiogcmaaGreatDoor
open Go.RowKit
def stoC (s : StoW) : List Value := [.int .u32 (s.addr : Int), .int .i64 (s.size : Int), .int .u32 s.v]
theorem stoC_one (s : StoW) : ∀ u ∈ stoC s, u.oneCell' = true := by
  intro u hu
  simp only [stoC, List.mem_cons, List.not_mem_nil, or_false] at hu
  rcases hu with rfl | rfl | rfl <;> rfl
theorem three_news (w : World) (a b c : Value) (t : TypeId) : ∀ j v, [a, b, c][j]? = some v → (w.alloc (.cells #[a, b, c] t)).cell? ((⟨w.heap.size, 0, none⟩ : Addr).add j) = some v := by
  intro j u hj
  match j, hj with
  | 0, hj => simp at hj; subst hj; simp [Addr.add]
  | 1, hj => simp at hj; subst hj; simp [Addr.add]
  | 2, hj => simp at hj; subst hj; simp [Addr.add]
  | j + 3, hj => simp at hj
theorem flat3 : ∀ (L : List StoW) (j : Nat) (h : j < L.length) (c : Nat), c < 3 → (L.flatMap stoC)[j * 3 + c]? = (stoC (L[j]'h))[c]?
  | [], j, h, c, hc => absurd h (Nat.not_lt_zero j)
  | i :: t, 0, h, c, hc => by
    rw [List.flatMap_cons, List.getElem?_append_left (by simp [stoC]; omega)]
    simp
  | i :: t, j + 1, h, c, hc => by
    rw [List.flatMap_cons, List.getElem?_append_right (by simp [stoC]; omega)]
    have e : (j + 1) * 3 + c - (stoC i).length = j * 3 + c := by simp [stoC]; omega
    rw [e, flat3 t j (by simpa using h) c hc]
    simp
theorem Tryz.infoWait : (Tryz.prog.info? 124).map (fun i => (i.zero, i.size, i.bytes)) = some (some (.agg #[.int .u32 0, .int .i64 0, .int .u32 0]), 3, 24) := by kernel_rfl
abbrev WaitO (w : World) (B : Nat) (wv : Value) (W : List StoW) : Prop := w.ownsRow B 124 3 wv W.length (W.flatMap stoC)
theorem WaitO.at {w : World} {B g cap : Nat} {W : List StoW} (h : WaitO w B (.slice (some ⟨g, 0, none⟩) W.length cap) W) : WaitAt w g W := by
  obtain ⟨hl, h' | ⟨g2, cap2, cur, hv, hg, hh, hc, hm, hs, ht⟩⟩ := id h
  · cases h'.1
  · have hgg : g = g2 := by
      simp only [Value.slice.injEq, Option.some.injEq, Addr.mk.injEq] at hv
      exact hv.1.1
    subst hgg
    refine ⟨fun j hj => ?_, (Array.getElem?_eq_some_iff.1 hh).1⟩
    have key : ∀ c u, c < 3 → (stoC (W[j]'hj))[c]? = some u → w.cell? ⟨g, j * 3 + c, none⟩ = some u := by
      intro c u hc3 hu
      rw [← flat3 W j hj c hc3, ← ht] at hu
      have hlt : j * 3 + c < W.length * 3 := by omega
      rw [List.getElem?_take_of_lt hlt, Array.getElem?_toList] at hu
      simp [World.cell?, hh, hu]
    exact ⟨key 0 _ (by decide) rfl, key 1 _ (by decide) rfl, key 2 _ (by decide) rfl⟩
theorem WaitO.kept {w w' : World} {B : Nat} {wv : Value} {W : List StoW} {S : Nat → Prop} (h : WaitO w B wv W) (hk : Kept S w w') (hS : ∀ g, wv.ownBlock = some g → ¬ S g) : WaitO w' B wv W := by
  refine own_block h (fun g hg => hk.same g ?_ (hS g hg))
  obtain ⟨hl, h' | ⟨g2, cap2, cur, hv, _, hh, _⟩⟩ := id h
  · rw [h'.1] at hg
    cases hg
  · rw [hv] at hg
    cases hg
    exact (Array.getElem?_eq_some_iff.1 hh).1
def Waits (w : World) (mb : Nat) (X : Regs) (rv wv : Value) (B : Nat) (W : List StoW) (s : StoW) (e : Ending) (w' : World) : Prop := e = .returned (.tuple #[]) ∧ Kept (fun k => k = mb ∨ wv.ownBlock = some k) w w' ∧ ∃ wv', MpB w' mb X rv wv' ∧ WaitO w' B wv' (W ++ [s])
theorem waits_mk {w w4 : World} {mb B : Nat} {X : Regs} {rv wv wv' : Value} {W : List StoW} {s : StoW} (hm : MpB w mb X rv wv) (ho : WaitO w B wv W)
    (hown : w4.ownsRow B 124 3 wv' (W.length + 1) (W.flatMap stoC ++ stoC s)) (hg : w.grownBy w4 wv.ownBlock) :
    MpB w4 mb X rv wv ∧ Waits w mb X rv wv B W s (.returned (.tuple #[])) (w4.setCell ⟨mb, 65, none⟩ wv') := by
  obtain ⟨cur, h1, h2, h3⟩ := hm.ex
  have hne := own_ne ho h1 (by decide)
  have hm4 : MpB w4 mb X rv wv := hm.of_block (hg.block mb hm.lt hne)
  obtain ⟨cur4, g1, _, _⟩ := hm4.ex
  refine ⟨hm4, rfl, ⟨((Below.refl 0 w).grown hg (Nat.zero_le _) (fun k hk => Nat.zero_le _)).setCell (Nat.zero_le _) _, fun k hk hs => ?_⟩, wv', ?_, ?_⟩
  · rw [setCell_other w4 mb 65 k wv' (fun e => hs (Or.inl e))]
    exact hg.block k hk (fun e => hs (Or.inr e.symm))
  · refine (Row.set hm4 65 wv').eqv (fun j hj => ?_)
    unfold mpG
    by_cases e : j = 65
    · subst e
      rfl
    · rw [if_neg e]
      by_cases e1 : j < 64
      · rw [if_pos e1, if_pos e1]
      · have e2 : j = 64 := by omega
        subst e2
        rfl
  · have := own_block (w' := w4.setCell ⟨mb, 65, none⟩ wv') hown (fun g hg2 => setCell_other w4 mb 65 g wv' (fun e2 => own_ne hown g1 (by decide) (by rw [hg2, e2])))
    unfold WaitO
    rw [List.length_append, List.flatMap_append]
    simpa using this
section
variable {w : World}
set_option maxHeartbeats 4000000 in
set_option maxRecDepth 100000 in
theorem waitP_any {mb B : Nat} {X : Regs} {rv wv : Value} {W : List StoW} (hm : MpB w mb X rv wv) (ho : WaitO w B wv W) (hl : W.length ≤ 100) (hB : B ≤ w.heap.size) (s : StoW) :
    Calls Tryz.prog 60 #[.pointer (some ⟨mb, 0, none⟩), .int .u32 (s.addr : Int), .int .i64 (s.size : Int), .int .u32 s.v] w fun e w' => Waits w mb X rv wv B W s e w' := by
  have HM := Lib.hid hm
  have HO := Lib.hid ho
  have HL := Lib.hid hl
  have HB := Lib.hid hB
  obtain ⟨iS, hS1, hS2, hS3, hS4⟩ := info_parts Tryz.infoWait
  have c65 : w.cell? ⟨mb, 65, none⟩ = some wv := hm.cell (show 65 < 66 by decide)
  clear hm ho hl hB
  go_enter Tryz.func60, Tryz.ntmps60
  go_wp2_with (at_builtin; refine wpList_append_own _ rfl (.tmp 12) (.tmp 17) 89 rfl B 124 iS (.agg #[.int .u32 0, .int .i64 0, .int .u32 0]) 3 24 Tryz.underlying89 hS1 hS2 hS3 hS4 rfl (by decide) wv W.length (W.flatMap stoC) rfl (HO.out.alloc _) ⟨w.heap.size, 0, none⟩ 1 1 (stoC s) rfl rfl (three_news w _ _ _ _) (stoC_one s) (by unfold maxLen; have := HL.out; omega) (by have := HL.out; omega) (by simp; have := HB.out; omega) ?_)
  intro v5 w5 hown5 hgr5 _
  obtain ⟨hm5, hw5⟩ := waits_mk HM.out HO.out hown5 ((World.grownBy_alloc w _ _).trans hgr5)
  have HW5 := Lib.hid hw5
  obtain ⟨va', vc', hv5⟩ : ∃ va' vc', v5 = .slice va' (W.length + 1) vc' := by
    rcases Joins.ownsRow_forms hown5 with ⟨_, hz⟩ | ⟨g, cap, hv⟩
    · exact absurd hz (by omega)
    · exact ⟨_, _, hv⟩
  subst hv5
  have z0 : w5.cell? ⟨mb, 65, none⟩ = some wv := hm5.cell (show 65 < 66 by decide)
  have z0f := hm5.free 65
  clear hown5 hgr5 hm5 hw5 c65
  go_wp2
  go_end0
  exact HW5.out
end
end Go.Proofs.YtlnefmgiiogcmaaGreatDoor
namespace Go.Proofs.YtlnefmgiiogcmaaGreatDoor
open Go.RowKit
set_option maxHeartbeats 4000000 in
set_option maxRecDepth 100000 in
theorem doP_store_no {w : World} {mb d a b n A : Nat} {im : Int} {X : Regs} {rv wv : Value} (h : MpB w mb X rv wv) (hd : d < 64) (ha : a < 64) (hb : b < 64) (hA : (X a + im) % 4294967296 = (A : Int))
    (hM : ∀ wx, Below w.heap.size w wx → Calls Tryz.prog 59 #[.pointer (some ⟨mb, 0, none⟩), .int .u32 (A : Int), .int .i64 (d : Int)] wx fun e w' => e = .returned (.bool false) ∧ wx = w') :
    Calls Tryz.prog 33 #[.pointer (some ⟨mb, 0, none⟩), .agg #[.string ⟨#[115, 116, 111, 114, 101]⟩, .int .i64 (d : Int), .int .i64 (a : Int), .int .i64 (b : Int), .int .u32 im, .int .i64 (n : Int)]] w fun e w' => e = .returned (.bool false) ∧ MpB w' mb X rv wv ∧ Kept (fun k => k = mb) w w' := by
  have hb' := (Below.refl w.heap.size w).alloc (Nat.le_refl _) (.cells #[.string ⟨#[115, 116, 111, 114, 101]⟩, .int .i64 (d : Int), .int .i64 (a : Int), .int .i64 (b : Int), .int .u32 im, .int .i64 (n : Int)] 61)
  have HM0 : Hid (MpB (w.alloc (.cells #[.string ⟨#[115, 116, 111, 114, 101]⟩, .int .i64 (d : Int), .int .i64 (a : Int), .int .i64 (b : Int), .int .u32 im, .int .i64 (n : Int)] 61)) mb X rv wv) := Lib.hid (h.of_block (hb'.block mb h.lt))
  have HBX : Hid ((w.alloc (.cells #[.string ⟨#[115, 116, 111, 114, 101]⟩, .int .i64 (d : Int), .int .i64 (a : Int), .int .i64 (b : Int), .int .u32 im, .int .i64 (n : Int)] 61)).heap[w.heap.size]? = some (.cells #[.string ⟨#[115, 116, 111, 114, 101]⟩, .int .i64 (d : Int), .int .i64 (a : Int), .int .i64 (b : Int), .int .u32 im, .int .i64 (n : Int)] 61 (0, 0))) := Lib.hid (heap_alloc_new w _)
  have HB0 := Lib.hid hb'
  have HN := Lib.hid (And.intro hd (And.intro ha hb))
  have HMAY := Lib.hid hM
  have iD : (d : Int) < 64 := by omega
  have iA : (a : Int) < 64 := by omega
  have iB : (b : Int) < 64 := by omega
  clear h hb' hd ha hb hM
  go_enter Tryz.func33, Tryz.ntmps33
  go_wp2_with fail
  generalize w.alloc (.cells #[.string ⟨#[115, 116, 111, 114, 101]⟩, .int .i64 (d : Int), .int .i64 (a : Int), .int .i64 (b : Int), .int .u32 im, .int .i64 (n : Int)] 61) = V at *
  obtain ⟨c0, c1, c2, c3, c4, c5⟩ := six_cells HBX.out
  have hx := HM0.out.reg HN.out.2.1
  go_still (by kernel_rfl)
  change Exit.then _ _ Exit.normal _ V.drew
  have HBX1 : Hid (V.drew.heap[w.heap.size]? = _) := HBX
  have HM1 := Lib.hid (show MpB V.drew mb X rv wv from HM0.out.of_block rfl)
  have HB1 := Lib.hid (HB0.out.trans ((Below.refl V.heap.size V).drew.mono HB0.out.size))
  clear c0 c1 c2 c3 c4 c5 hx HBX HM0 HB0
  generalize V.drew = W1 at *
  obtain ⟨c0, c1, c2, c3, c4, c5⟩ := six_cells HBX1.out
  go_wp2_with fail
  have hy := HM1.out.reg HN.out.2.2
  go_still (by kernel_rfl)
  change Exit.then _ _ Exit.normal _ W1.drew
  have HBX2 : Hid (W1.drew.heap[w.heap.size]? = _) := HBX1
  have HM2 := Lib.hid (show MpB W1.drew mb X rv wv from HM1.out.of_block rfl)
  have HB2 := Lib.hid (HB1.out.trans ((Below.refl W1.heap.size W1).drew.mono HB1.out.size))
  clear c0 c1 c2 c3 c4 c5 hy HBX1 HM1 HB1
  generalize W1.drew = W2 at *
  obtain ⟨c0, c1, c2, c3, c4, c5⟩ := six_cells HBX2.out
  go_wp2_with fail
  try rw [hA]
  refine (HMAY.out W2 HB2.out).mono ?_
  rintro e w7 ⟨rfl, rfl⟩
  go_wp2_with fail
  go_ret
  exact ⟨rfl, HM2.out, Kept.of_below HB2.out⟩
set_option maxHeartbeats 4000000 in
set_option maxRecDepth 100000 in
theorem doP_store_yes {w : World} {mb d a b n A : Nat} {im : Int} {X : Regs} {rv wv : Value} (h : MpB w mb X rv wv) (hd : d < 64) (ha : a < 64) (hb : b < 64) (hA : (X a + im) % 4294967296 = (A : Int))
    {B : Nat} {W : List StoW} (ho : WaitO w B wv W) (hl : W.length ≤ 100) (hB : B ≤ w.heap.size)
    (hM : ∀ wx, Below w.heap.size w wx → Calls Tryz.prog 59 #[.pointer (some ⟨mb, 0, none⟩), .int .u32 (A : Int), .int .i64 (d : Int)] wx fun e w' => e = .returned (.bool true) ∧ wx = w') :
    Calls Tryz.prog 33 #[.pointer (some ⟨mb, 0, none⟩), .agg #[.string ⟨#[115, 116, 111, 114, 101]⟩, .int .i64 (d : Int), .int .i64 (a : Int), .int .i64 (b : Int), .int .u32 im, .int .i64 (n : Int)]] w fun e w' => e = .returned (.bool true) ∧ Kept (fun k => k = mb ∨ wv.ownBlock = some k) w w' ∧ ∃ wv', MpB w' mb X rv wv' ∧ WaitO w' B wv' (W ++ [⟨A, d, X b⟩]) := by
  have hb' := (Below.refl w.heap.size w).alloc (Nat.le_refl _) (.cells #[.string ⟨#[115, 116, 111, 114, 101]⟩, .int .i64 (d : Int), .int .i64 (a : Int), .int .i64 (b : Int), .int .u32 im, .int .i64 (n : Int)] 61)
  have HM0 : Hid (MpB (w.alloc (.cells #[.string ⟨#[115, 116, 111, 114, 101]⟩, .int .i64 (d : Int), .int .i64 (a : Int), .int .i64 (b : Int), .int .u32 im, .int .i64 (n : Int)] 61)) mb X rv wv) := Lib.hid (h.of_block (hb'.block mb h.lt))
  have HBX : Hid ((w.alloc (.cells #[.string ⟨#[115, 116, 111, 114, 101]⟩, .int .i64 (d : Int), .int .i64 (a : Int), .int .i64 (b : Int), .int .u32 im, .int .i64 (n : Int)] 61)).heap[w.heap.size]? = some (.cells #[.string ⟨#[115, 116, 111, 114, 101]⟩, .int .i64 (d : Int), .int .i64 (a : Int), .int .i64 (b : Int), .int .u32 im, .int .i64 (n : Int)] 61 (0, 0))) := Lib.hid (heap_alloc_new w _)
  have HB0 := Lib.hid hb'
  have HN := Lib.hid (And.intro hd (And.intro ha hb))
  have HMAY := Lib.hid hM
  have HO := Lib.hid ho
  have HLN := Lib.hid hl
  have HBB := Lib.hid hB
  clear ho hl hB
  have iD : (d : Int) < 64 := by omega
  have iA : (a : Int) < 64 := by omega
  have iB : (b : Int) < 64 := by omega
  clear h hb' hd ha hb hM
  go_enter Tryz.func33, Tryz.ntmps33
  go_wp2_with fail
  generalize w.alloc (.cells #[.string ⟨#[115, 116, 111, 114, 101]⟩, .int .i64 (d : Int), .int .i64 (a : Int), .int .i64 (b : Int), .int .u32 im, .int .i64 (n : Int)] 61) = V at *
  obtain ⟨c0, c1, c2, c3, c4, c5⟩ := six_cells HBX.out
  have hx := HM0.out.reg HN.out.2.1
  go_still (by kernel_rfl)
  change Exit.then _ _ Exit.normal _ V.drew
  have HBX1 : Hid (V.drew.heap[w.heap.size]? = _) := HBX
  have HM1 := Lib.hid (show MpB V.drew mb X rv wv from HM0.out.of_block rfl)
  have HB1 := Lib.hid (HB0.out.trans ((Below.refl V.heap.size V).drew.mono HB0.out.size))
  clear c0 c1 c2 c3 c4 c5 hx HBX HM0 HB0
  generalize V.drew = W1 at *
  obtain ⟨c0, c1, c2, c3, c4, c5⟩ := six_cells HBX1.out
  go_wp2_with fail
  have hy := HM1.out.reg HN.out.2.2
  go_still (by kernel_rfl)
  change Exit.then _ _ Exit.normal _ W1.drew
  have HBX2 : Hid (W1.drew.heap[w.heap.size]? = _) := HBX1
  have HM2 := Lib.hid (show MpB W1.drew mb X rv wv from HM1.out.of_block rfl)
  have HB2 := Lib.hid (HB1.out.trans ((Below.refl W1.heap.size W1).drew.mono HB1.out.size))
  clear c0 c1 c2 c3 c4 c5 hy HBX1 HM1 HB1
  generalize W1.drew = W2 at *
  obtain ⟨c0, c1, c2, c3, c4, c5⟩ := six_cells HBX2.out
  go_wp2_with fail
  try rw [hA]
  refine (HMAY.out W2 HB2.out).mono ?_
  rintro e w7 ⟨rfl, rfl⟩
  go_wp2_with fail
  try rw [hA]
  refine (waitP_any HM2.out (own_below HO.out HB2.out) HLN.out (Nat.le_trans HBB.out HB2.out.size) ⟨A, d, X b⟩).mono ?_
  rintro e w8 ⟨rfl, hk8, hx8⟩
  have HX8 := Lib.hid hx8
  have HK8 := Lib.hid ((Kept.of_below HB2.out).trans hk8)
  clear hk8 hx8 c0 c1 c2 c3 c4 c5
  go_wp2_with fail
  go_ret
  exact ⟨rfl, HK8.out, HX8.out⟩
end Go.Proofs.YtlnefmgiiogcmaaGreatDoor
namespace Go.Proofs.YtlnefmgiiogcmaaGreatDoor
open Go.RowKit
def waitsO (o : OpN) (X : Regs) (W : List StoW) : List StoW := if storeK o.kind = true then W ++ [⟨((X o.a + o.imm) % 4294967296).toNat, o.d, X o.b.toNat⟩] else W
theorem mem_waits (o : OpN) (X : Regs) (ws : List Int) (W : List StoW) : memO o X (applyW ws W) = applyW ws (waitsO o X W) := by
  unfold memO waitsO
  by_cases h : storeK o.kind = true
  · rw [if_pos h, if_pos h, applyW_snoc]
  · rw [if_neg h, if_neg h]
structure StoG (wt : Nat → Bool) (s : StoW) : Prop where
  ok : StoOK s
  right : reach (s.addr : Int) s.size = true
  free : wt (s.addr / 256) = false
theorem reach_fit {a : Nat} {n : Nat} (hn : n = 1 ∨ n = 2 ∨ n = 4) (h : reach (a : Int) n = true) : a + n ≤ 16384 := by
  have h2 := of_decide_eq_true h
  have := h2.1
  have := h2.2
  rcases hn with rfl | rfl | rfl <;> omega
theorem waits_good {wt : Nat → Bool} {o : OpN} {X : Regs} {W : List StoW} (hW : ∀ s ∈ W, StoG wt s) (hX : RegsOK X) (hd : storeK o.kind = true → o.d = 1 ∨ o.d = 2 ∨ o.d = 4) (ht : trapO wt o X = false) : ∀ s ∈ waitsO o X W, StoG wt s := by
  intro s hs
  unfold waitsO at hs
  by_cases h : storeK o.kind = true
  · rw [if_pos h] at hs
    rcases List.mem_append.1 hs with h1 | h1
    · exact hW s h1
    · obtain rfl := List.mem_singleton.1 h1
      have hk : o.kind = .store := by
        revert h
        cases o.kind <;> intro h <;> first | rfl | exact absurd h (by decide)
      unfold trapO at ht
      rw [hk] at ht
      simp only [Bool.not_eq_false', Bool.and_eq_true, Bool.not_eq_true'] at ht
      have h0 : 0 ≤ (X o.a + o.imm) % 4294967296 := Int.emod_nonneg _ (by decide)
      have hc : ((((X o.a + o.imm) % 4294967296).toNat : Nat) : Int) = (X o.a + o.imm) % 4294967296 := Int.toNat_of_nonneg h0
      have hr : reach ((((X o.a + o.imm) % 4294967296).toNat : Nat) : Int) o.d = true := by rw [hc]; exact ht.1
      exact ⟨⟨hd h, reach_fit (hd h) hr, hX _⟩, hr, ht.2⟩
  · rw [if_neg h] at hs
    exact hW s hs
theorem hits_none {wt ht : Nat → Bool} (W : List StoW) (hW : ∀ s ∈ W, StoG wt s) : W.foldl (fun h s => hitP wt h (s.addr / 256)) ht = ht := by
  induction W generalizing ht with
  | nil => rfl
  | cons s W ih =>
    rw [List.foldl_cons]
    have e : hitP wt ht (s.addr / 256) = ht := by
      funext x
      unfold hitP
      rw [(hW s (List.mem_cons_self ..)).free, Bool.and_false, Bool.or_false]
    rw [e]
    exact ih (fun s hs => hW s (List.mem_cons_of_mem _ hs))
theorem waits_len (o : OpN) (X : Regs) (W : List StoW) : (waitsO o X W).length = W.length + (if storeK o.kind = true then 1 else 0) := by
  unfold waitsO
  split <;> simp
end Go.Proofs.YtlnefmgiiogcmaaGreatDoor
namespace Go.Proofs.YtlnefmgiiogcmaaGreatDoor
open Go.RowKit
theorem valO_sum (o : OpN) (X : Regs) (ws : List Int) (hk : isSumK o.kind = true ∨ divO o.kind = true) : valO o X ws = valK o.kind (X o.a) (X o.b.toNat) (X o.d) := by
  obtain ⟨k, d, a, b, im, n⟩ := o
  cases k <;> first | rfl | (rcases hk with hk | hk <;> exact absurd (show false = true from hk) (by decide))
structure EvS (w : World) (r bb mw mh mb B n : Nat) (X : Regs) (wv : Value) (ws : List Int) (wt ht : Nat → Bool) (W : List StoW) : Prop where
  ram : RamP w r bb mw mh ws wt ht n
  mp : MpB w mb X (.pointer (some ⟨r, 0, none⟩)) wv
  wait : WaitO w B wv W
  good : ∀ s ∈ W, StoG wt s
  regs : RegsOK X
  low : r < B ∧ bb < B ∧ mw < B ∧ mh < B ∧ B ≤ mb
theorem EvS.B_le {w : World} {r bb mw mh mb B n : Nat} {X : Regs} {wv : Value} {ws : List Int} {wt ht : Nat → Bool} {W : List StoW} (h : EvS w r bb mw mh mb B n X wv ws wt ht W) : B ≤ w.heap.size := Nat.le_trans h.low.2.2.2.2 (Nat.le_of_lt h.mp.lt)
theorem EvS.own_ge {w : World} {r bb mw mh mb B n : Nat} {X : Regs} {wv : Value} {ws : List Int} {wt ht : Nat → Bool} {W : List StoW} (h : EvS w r bb mw mh mb B n X wv ws wt ht W) {k : Nat} (hk : wv.ownBlock = some k) : B ≤ k := (World.ownsRow.lt h.wait k hk).1
theorem EvS.step {w w' : World} {r bb mw mh mb B n : Nat} {X Y : Regs} {wv : Value} {ws : List Int} {wt ht : Nat → Bool} {W : List StoW} (h : EvS w r bb mw mh mb B n X wv ws wt ht W) (hm : MpB w' mb Y (.pointer (some ⟨r, 0, none⟩)) wv) (hk : Kept (fun k => k = mb) w w') (hY : RegsOK Y) : EvS w' r bb mw mh mb B n Y wv ws wt ht W where
  ram := h.ram.kept hk (by have := h.low; omega) (by have := h.low; omega) (by have := h.low; omega) (by have := h.low; omega)
  mp := hm
  wait := h.wait.kept hk (fun g hg e => by
    subst e
    obtain ⟨cs, h1, _, _⟩ := h.mp.ex
    exact own_ne h.wait h1 (by decide) hg.symm)
  good := h.good
  regs := hY
  low := h.low
def DoP (w : World) (r bb mw mh mb B n : Nat) (X : Regs) (wv : Value) (ws : List Int) (wt ht : Nat → Bool) (W : List StoW) (o : OpN) (e : Ending) (w' : World) : Prop :=
  e = .returned (.bool (!trapO wt o X)) ∧ Kept (fun k => k = mb ∨ wv.ownBlock = some k) w w' ∧ (trapO wt o X = false → ∃ wv', EvS w' r bb mw mh mb B n (regO o (valO o X (applyW ws W)) X) wv' ws wt ht (waitsO o X W))
theorem DoP.mk {w w' : World} {r bb mw mh mb B n : Nat} {X Y : Regs} {wv : Value} {ws : List Int} {wt ht : Nat → Bool} {W : List StoW} {o : OpN} {e : Ending} {t : Bool} (h : EvS w r bb mw mh mb B n X wv ws wt ht W) (hs : storeK o.kind = false) (he : e = .returned (.bool t)) (hq : t = !trapO wt o X)
    (hm : MpB w' mb Y (.pointer (some ⟨r, 0, none⟩)) wv) (hk : Kept (fun k => k = mb) w w') (hY : trapO wt o X = false → Y = regO o (valO o X (applyW ws W)) X) (hR : RegsOK (regO o (valO o X (applyW ws W)) X)) : DoP w r bb mw mh mb B n X wv ws wt ht W o e w' := by
  refine ⟨by rw [he, hq], hk.mono (fun k e => Or.inl e), fun h0 => ⟨wv, ?_⟩⟩
  have hw : waitsO o X W = W := by unfold waitsO; rw [hs]; rfl
  rw [hw]
  have e := hY h0
  subst e
  exact h.step hm hk hR
theorem regO_wr {o : OpN} {v : Int} {X : Regs} (h : wrO o = o.d) (h0 : 1 ≤ o.d) : regO o v X = updR X o.d v := by
  unfold regO
  rw [h, if_neg (by omega)]
theorem regO_no {o : OpN} {v : Int} {X : Regs} (h : wrO o = 0) : regO o v X = X := by
  unfold regO
  rw [if_pos h]
theorem doP_any {w : World} {r bb mw mh mb B n : Nat} {X : Regs} {wv : Value} {ws : List Int} {wt ht : Nat → Bool} {W : List StoW} {ad : Nat → Addr} (h : EvS w r bb mw mh mb B n X wv ws wt ht W) (hl : W.length ≤ 8) (k : OpK) {d a m : Nat} {b im : Int} (hg : opG ⟨k, d, a, b, im, m⟩) (him : Reg32 im) (hv : leavesO k = false) (hS : Sents w ad) (hR : RegsOK (regO ⟨k, d, a, b, im, m⟩ (valO ⟨k, d, a, b, im, m⟩ X (applyW ws W)) X)) :
    Calls Tryz.prog 33 #[.pointer (some ⟨mb, 0, none⟩), .agg #[.string k.lit, .int .i64 (d : Int), .int .i64 (a : Int), .int .i64 b, .int .u32 im, .int .i64 (m : Int)]] w fun e w' => DoP w r bb mw mh mb B n X wv ws wt ht W ⟨k, d, a, b, im, m⟩ e w' := by
  by_cases hsum : isSumK k = true
  · have hgs : 1 ≤ d ∧ d < 64 ∧ a < 64 ∧ 0 ≤ b ∧ b < 64 ∧ im = 0 := by
      cases k <;> first | exact hg | exact absurd (show false = true from hsum) (by decide)
    refine (doP_sum k hsum h.regs h.mp hgs.2.1 hgs.2.2.1 hgs.2.2.2.1 hgs.2.2.2.2.1).mono ?_
    rintro e w' ⟨rfl, hm, hk⟩
    have hw : wrO ⟨k, d, a, b, im, m⟩ = d := by cases k <;> first | rfl | exact absurd (show false = true from hsum) (by decide)
    refine DoP.mk h (by cases k <;> first | rfl | exact absurd (show false = true from hsum) (by decide)) rfl (by cases k <;> first | rfl | exact absurd (show false = true from hsum) (by decide)) hm hk (fun _ => ?_) hR
    rw [valO_sum _ _ _ (Or.inl hsum), regO_wr hw hgs.1]
  · by_cases hdiv : divO k = true
    · have hgs : 1 ≤ d ∧ d < 64 ∧ a < 64 ∧ 0 ≤ b ∧ b < 64 ∧ im = 0 := by
        cases k <;> first | exact hg | exact absurd (show false = true from hdiv) (by decide)
      refine (doP_div k hdiv h.regs h.mp hgs.2.1 hgs.2.2.1 hgs.2.2.2.1 hgs.2.2.2.2.1).mono ?_
      rintro e w' ⟨rfl, hm, hk⟩
      have hw : wrO ⟨k, d, a, b, im, m⟩ = d := by cases k <;> first | rfl | exact absurd (show false = true from hdiv) (by decide)
      refine DoP.mk h (by cases k <;> first | rfl | exact absurd (show false = true from hdiv) (by decide)) rfl (by cases k <;> first | rfl | exact absurd (show false = true from hdiv) (by decide)) hm hk (fun _ => ?_) hR
      rw [valO_sum _ _ _ (Or.inr hdiv), regO_wr hw hgs.1]
    · cases k with
      | set =>
        obtain ⟨g1, g2, g3, g4⟩ := hg
        refine (doP_set h.mp g2 (show a < 64 by have : a = 0 := g3; omega) (show 0 ≤ b by have : b = 0 := g4; omega) (show b < 64 by have : b = 0 := g4; omega)).mono ?_
        rintro e w' ⟨rfl, hm, hk⟩
        exact DoP.mk h rfl rfl rfl hm hk (fun _ => (regO_wr (o := ⟨.set, d, a, b, im, m⟩) rfl g1).symm) hR
      | copy =>
        obtain ⟨g1, g2, g3, g4, _⟩ := hg
        refine (doP_copy h.mp g2 g3 (show 0 ≤ b by have : b = 0 := g4; omega) (show b < 64 by have : b = 0 := g4; omega)).mono ?_
        rintro e w' ⟨rfl, hm, hk⟩
        exact DoP.mk h rfl rfl rfl hm hk (fun _ => (regO_wr (o := ⟨.copy, d, a, b, im, m⟩) rfl g1).symm) hR
      | overP =>
        obtain ⟨g1, g2, g3, g4, _⟩ := hg
        refine (doP_overP h.regs h.mp (show d < 64 by have : d = 0 := g1; omega) g2 g3 g4).mono ?_
        rintro e w' ⟨rfl, hm, hk⟩
        exact DoP.mk h rfl rfl (by simp [trapO]) hm hk (fun _ => (regO_no (o := ⟨.overP, d, a, b, im, m⟩) rfl).symm) hR
      | overM =>
        obtain ⟨g1, g2, g3, g4, _⟩ := hg
        refine (doP_overM h.regs h.mp (show d < 64 by have : d = 0 := g1; omega) g2 g3 g4).mono ?_
        rintro e w' ⟨rfl, hm, hk⟩
        exact DoP.mk h rfl rfl (by simp [trapO]) hm hk (fun _ => (regO_no (o := ⟨.overM, d, a, b, im, m⟩) rfl).symm) hR
      | load =>
        obtain ⟨g1, g2, g3, g4⟩ := hg
        simp only at g1 g2 g3 g4
        obtain ⟨A, hA⟩ : ∃ A : Nat, (X a + im) % 4294967296 = (A : Int) := ⟨((X a + im) % 4294967296).toNat, by omega⟩
        have hk : b.natAbs = 1 ∨ b.natAbs = 2 ∨ b.natAbs = 4 := by omega
        have hb : b = (b.natAbs : Int) ∨ b = -(b.natAbs : Int) := by omega
        have mx : max b (-b) = (b.natAbs : Int) := by omega
        cases hr : reach ((A : Nat) : Int) b.natAbs with
        | true =>
          have hL : ∀ wx, Below w.heap.size w wx → Calls Tryz.prog 58 #[.pointer (some ⟨mb, 0, none⟩), .int .u32 ((X a + im) % 4294967296), .int .i64 b] wx fun e w' => e = .returned (.tuple #[.int .u32 (wideZ (loadN (applyW ws W) A b.natAbs) b.natAbs (decide (b < 0))), .bool true]) ∧ Below wx.heap.size wx w' := by
            intro wx hbw
            have hm' : MpB wx mb X (.pointer (some ⟨r, 0, none⟩)) wv := h.mp.of_block (hbw.block mb h.mp.lt)
            rw [hA]
            rcases Joins.ownsRow_forms h.wait with ⟨hn, hz⟩ | ⟨g, cap, hn⟩
            · have hW0 : W = [] := List.length_eq_zero_iff.1 hz
              subst hn hW0
              refine (loadP_nil (h.ram.below hbw) hm' A b.natAbs hk hr b hb mx).mono ?_
              rintro e w' ⟨rfl, rfl⟩
              exact ⟨rfl, Below.refl _ _⟩
            · have hw2 : WaitO wx B wv W := h.wait.kept (S := fun _ => False) (.of_below hbw) (fun _ _ x => x)
              subst hn
              exact loadP_yes (h.ram.below hbw) hm' hw2.at (fun s hs => (h.good s hs).ok) hl A b.natAbs hk hr b hb mx
          refine (doP_load h.mp g2 g3 hL).mono ?_
          rintro e w' ⟨rfl, hm, hk2⟩
          refine DoP.mk h rfl rfl (by simp [trapO, hA, hr]) hm hk2 (fun _ => ?_) hR
          rw [regO_wr (o := ⟨.load, d, a, b, im, m⟩) rfl g1]
          simp only [valO, hA, Int.toNat_natCast]
        | false =>
          have hL : ∀ wx, Below w.heap.size w wx → Calls Tryz.prog 58 #[.pointer (some ⟨mb, 0, none⟩), .int .u32 ((X a + im) % 4294967296), .int .i64 b] wx fun e w' => e = .returned (.tuple #[.int .u32 0, .bool false]) ∧ Below wx.heap.size wx w' := by
            intro wx hbw
            have hm' : MpB wx mb X (.pointer (some ⟨r, 0, none⟩)) wv := h.mp.of_block (hbw.block mb h.mp.lt)
            refine (loadP_no (h.ram.below hbw) hm' ((X a + im) % 4294967296) (by unfold Reg32; omega) b.natAbs hk (by rw [hA]; exact hr) b hb mx (hS.below hbw)).mono ?_
            rintro e w' ⟨rfl, rfl⟩
            exact ⟨rfl, Below.refl _ _⟩
          refine (doP_load h.mp g2 g3 hL).mono ?_
          rintro e w' ⟨rfl, hm, hk2⟩
          exact DoP.mk h rfl rfl (by simp [trapO, hA, hr]) hm hk2 (fun h0 => by simp [trapO, hA, hr] at h0) hR
      | store =>
        obtain ⟨g1, g2, g3, g4⟩ := hg
        simp only at g1 g2 g3 g4
        obtain ⟨A, hA⟩ : ∃ A : Nat, (X a + im) % 4294967296 = (A : Int) := ⟨((X a + im) % 4294967296).toNat, by omega⟩
        obtain ⟨bn, rfl⟩ := Int.eq_ofNat_of_zero_le g3
        have hbn : bn < 64 := by omega
        have hd : d < 64 := by omega
        cases hr : reach ((A : Nat) : Int) d with
        | false =>
          refine (doP_store_no h.mp hd g2 hbn hA (fun wx hbw => ?_)).mono ?_
          · refine (mayP_no (h.ram.below hbw) (h.mp.of_block (hbw.block mb h.mp.lt)) (A : Int) (by unfold Reg32; omega) d g1 hr (hS.below hbw)).mono ?_
            rintro e w' ⟨rfl, hw⟩
            exact ⟨rfl, hw⟩
          · rintro e w' ⟨rfl, hm, hk2⟩
            exact ⟨by simp [trapO, hA, hr], hk2.mono (fun k e => Or.inl e), fun h0 => by simp [trapO, hA, hr] at h0⟩
        | true =>
          cases hwt : wt (A / 256) with
          | true =>
            refine (doP_store_no h.mp hd g2 hbn hA (fun wx hbw => ?_)).mono ?_
            · refine (mayP_yes (h.ram.below hbw) (h.mp.of_block (hbw.block mb h.mp.lt)) A d g1 hr).mono ?_
              rintro e w' ⟨rfl, hw⟩
              exact ⟨by rw [hwt]; rfl, hw⟩
            · rintro e w' ⟨rfl, hm, hk2⟩
              exact ⟨by simp [trapO, hA, hr, hwt], hk2.mono (fun k e => Or.inl e), fun h0 => by simp [trapO, hA, hr, hwt] at h0⟩
          | false =>
            refine (doP_store_yes h.mp hd g2 hbn hA h.wait (by omega) h.B_le (fun wx hbw => ?_)).mono ?_
            · refine (mayP_yes (h.ram.below hbw) (h.mp.of_block (hbw.block mb h.mp.lt)) A d g1 hr).mono ?_
              rintro e w' ⟨rfl, hw⟩
              exact ⟨by rw [hwt]; rfl, hw⟩
            · rintro e w' ⟨rfl, hk2, wv', hm, hwo⟩
              have ht0 : trapO wt ⟨.store, d, a, (bn : Int), im, m⟩ X = false := by simp [trapO, hA, hr, hwt]
              have hws : waitsO ⟨.store, d, a, (bn : Int), im, m⟩ X W = W ++ [⟨A, d, X bn⟩] := by simp [waitsO, storeK, hA]
              refine ⟨by rw [ht0]; rfl, hk2, fun _ => ⟨wv', ?_⟩⟩
              have hlow : ∀ k, k < B → ¬ (k = mb ∨ wv.ownBlock = some k) := fun k hkB e => by
                rcases e with e | e
                · have := h.low; omega
                · have := h.own_ge e; omega
              exact
                { ram := h.ram.kept hk2 (hlow _ h.low.1) (hlow _ h.low.2.1) (hlow _ h.low.2.2.1) (hlow _ h.low.2.2.2.1)
                  mp := by rw [regO_no (o := ⟨.store, d, a, (bn : Int), im, m⟩) rfl]; exact hm
                  wait := by rw [hws]; exact hwo
                  good := waits_good h.good h.regs (fun _ => g1) ht0
                  regs := hR
                  low := h.low }
      | cond => cases hv
      | out => cases hv
      | outr => cases hv
      | _ => first | exact absurd rfl hsum | exact absurd rfl hdiv
end Go.Proofs.YtlnefmgiiogcmaaGreatDoor
namespace Go.Proofs.YtlnefmgiiogcmaaGreatDoor
open Go.RowKit
theorem valO_word (o : OpN) {X : Regs} {ws : List Int} (hX : RegsOK X) (hi : Reg32 o.imm) : Reg32 (valO o X ws) := by
  obtain ⟨k, d, a, b, im, n⟩ := o
  cases k with
  | set => exact hi
  | copy => exact hX a
  | load => exact wideZ_ok (load_ok _ _ _) _
  | quo =>
    show Reg32 (match divZ (X a) (X b.toNat) true with | some r => r.1 | none => X d)
    cases e : divZ (X a) (X b.toNat) true with
    | none => exact hX d
    | some r => exact (divZ_ok (hX a) (hX b.toNat) e).1
  | rem =>
    show Reg32 (match divZ (X a) (X b.toNat) true with | some r => r.2 | none => X d)
    cases e : divZ (X a) (X b.toNat) true with
    | none => exact hX d
    | some r => exact (divZ_ok (hX a) (hX b.toNat) e).2
  | quou =>
    show Reg32 (match divZ (X a) (X b.toNat) false with | some r => r.1 | none => X d)
    cases e : divZ (X a) (X b.toNat) false with
    | none => exact hX d
    | some r => exact (divZ_ok (hX a) (hX b.toNat) e).1
  | remu =>
    show Reg32 (match divZ (X a) (X b.toNat) false with | some r => r.2 | none => X d)
    cases e : divZ (X a) (X b.toNat) false with
    | none => exact hX d
    | some r => exact (divZ_ok (hX a) (hX b.toNat) e).2
  | _ => simp only [valO]; exact sumZ_ok _ (hX a) (hX b.toNat)
theorem regO_word (o : OpN) {X : Regs} {ws : List Int} (hX : RegsOK X) (hi : Reg32 o.imm) : RegsOK (regO o (valO o X ws) X) := by
  unfold regO
  split
  · exact hX
  · exact hX.upd (valO_word o hX hi) _
end Go.Proofs.YtlnefmgiiogcmaaGreatDoor
namespace Go.Proofs.YtlnefmgiiogcmaaGreatDoor
open Go.RowKit
def whereV (k : OpK) (im x : Int) : Int := match k with | .outr => x | _ => im
def whereB (k : OpK) (x : Int) : Bool := match k with | .cond => (x != 0) | .outr => true | .out => true | _ => false
set_option maxHeartbeats 8000000 in
theorem irWhere_any (k : OpK) {d a n : Nat} {b im : Int} (x : Int) (w : World) : Calls Tryz.prog 31 #[.agg #[.string k.lit, .int .i64 (d : Int), .int .i64 (a : Int), .int .i64 b, .int .u32 im, .int .i64 (n : Int)], .int .u32 x] w fun e w' => e = .returned (.tuple #[.int .u32 (whereV k im x), .bool (whereB k x)]) ∧ Below w.heap.size w w' := by
  have HB := Lib.hid ((Below.refl w.heap.size w).alloc (Nat.le_refl _) (.cells #[.string k.lit, .int .i64 (d : Int), .int .i64 (a : Int), .int .i64 b, .int .u32 im, .int .i64 (n : Int)] 61))
  cases k <;> simp only [OpK.lit, whereV, whereB] at HB ⊢ <;> (go_enter Tryz.func31, Tryz.ntmps31; go_wp2; (try (go_quiet (fail); go_wp2)); go_ret2; first | exact ⟨rfl, HB.out⟩ | exact ⟨rfl, HB.out.trans ((blw_drewN (Below.refl _ _) _).mono HB.out.size)⟩)
end Go.Proofs.YtlnefmgiiogcmaaGreatDoor
namespace Go.Proofs.YtlnefmgiiogcmaaGreatDoor
open Go.RowKit
theorem eval_next {wt : Nat → Bool} {o : OpN} {os : List OpN} {X : Regs} {ws : List Int} {W : List StoW} (hg : opG o) (ht : trapO wt o X = false) (hgo : goesO o X = none) : evalZ wt (o :: os) X (applyW ws W) = evalZ wt os (regO o (valO o X (applyW ws W)) X) (applyW ws (waitsO o X W)) := by
  rw [evalZ_cons wt o os X _ hg, ← mem_waits]
  simp [ht, hgo]
theorem eval_trap {wt : Nat → Bool} {o : OpN} {os : List OpN} {X : Regs} {ws : List Int} (hg : opG o) (ht : trapO wt o X = true) : evalZ wt (o :: os) X ws = .trap o.at' := by
  rw [evalZ_cons wt o os X _ hg]
  simp [ht]
theorem eval_leave {wt : Nat → Bool} {o : OpN} {os : List OpN} {X : Regs} {ws : List Int} {pc : Int} (hg : opG o) (ht : trapO wt o X = false) (hgo : goesO o X = some pc) : evalZ wt (o :: os) X ws = .leave pc X ws := by
  rw [evalZ_cons wt o os X _ hg]
  simp [ht, hgo]
theorem goes_where (o : OpN) (X : Regs) (hl : leavesO o.kind = true) : goesO o X = if whereB o.kind (X o.a) = true then some (whereV o.kind o.imm (X o.a)) else none := by
  obtain ⟨k, d, a, b, im, n⟩ := o
  cases k <;> first | (exact absurd (show false = true from hl) (by decide)) | rfl | (simp [goesO, whereB, whereV])
end Go.Proofs.YtlnefmgiiogcmaaGreatDoor
namespace Go.Proofs.YtlnefmgiiogcmaaGreatDoor
open Go.RowKit
def loadK (k : OpK) : Bool := match k with | .load => true | _ => false
theorem loadK_is {k : OpK} (h : k = .load) : loadK k = true := by rw [h]; rfl
def Beside (x y : OpN) : Prop := (wrO x = 0 ∨ (wrO x ∉ rdO y ∧ wrO x ≠ wrO y)) ∧ (storeK x.kind = true → loadK y.kind = false ∧ storeK y.kind = false) ∧ leavesO x.kind = false
def RowOK (r : List OpN) : Prop := r.Pairwise Beside
def rowLeave (X : Regs) (r : List OpN) (p : Option Int) : Option Int := r.foldl (fun p o => match goesO o X with | some pc => some pc | none => p) p
def rowRegs (X : Regs) (ws : List Int) (r : List OpN) (Y : Regs) : Regs := r.foldl (fun Y o => regO o (valO o X ws) Y) Y
def rowMem (X : Regs) (r : List OpN) (us : List Int) : List Int := r.foldl (fun us o => memO o X us) us
def rowsZ (wt : Nat → Bool) : List (List OpN) → Regs → List Int → Ran
  | [], _, _ => .fell
  | r :: rs, X, ws => match r.find? (fun o => trapO wt o X) with
    | some o => .trap o.at'
    | none => match rowLeave X r none with
      | some pc => .leave pc (rowRegs X ws r X) (rowMem X r ws)
      | none => rowsZ wt rs (rowRegs X ws r X) (rowMem X r ws)
theorem memO_keep {o : OpN} (h : storeK o.kind = false) (X : Regs) (us : List Int) : memO o X us = us := by
  unfold memO
  rw [h]
  rfl
theorem regO_keep {o : OpN} (h : wrO o = 0) (v : Int) (X : Regs) : regO o v X = X := if_pos h
theorem regO_at {o : OpN} {k : Nat} (h : wrO o = 0 ∨ wrO o ≠ k) (v : Int) (X : Regs) : regO o v X k = X k := by
  unfold regO
  split
  · rfl
  · exact updR_other _ _ (fun e => by rcases h with h | h <;> omega)
theorem row_runs (wt : Nat → Bool) (X : Regs) (ws : List Int) (rest : List OpN) : ∀ (suf : List OpN) (Y : Regs) (us : List Int), (∀ o ∈ suf, opG o) → RowOK suf → (∀ o ∈ suf, ∀ r ∈ rdO o, Y r = X r) → (∀ o ∈ suf, loadK o.kind = true → us = ws) →
    RanEq (evalZ wt (suf ++ rest) Y us) (match suf.find? (fun o => trapO wt o X) with
      | some o => .trap o.at'
      | none => match rowLeave X suf none with
        | some pc => .leave pc (rowRegs X ws suf Y) (rowMem X suf us)
        | none => evalZ wt rest (rowRegs X ws suf Y) (rowMem X suf us))
  | [], Y, us, _, _, _, _ => RanEq.refl _
  | o :: suf, Y, us, hg, hr, hY, hw => by
    have ho := hg o (List.mem_cons_self ..)
    have hYo := hY o (List.mem_cons_self ..)
    obtain ⟨hb, hr2⟩ := List.pairwise_cons.1 hr
    rw [List.cons_append, evalZ_cons wt _ _ _ _ ho, trapO_eq wt o hYo, goesO_eq o hYo, List.find?_cons]
    by_cases ht : trapO wt o X = true
    · rw [if_pos ht, ht]
      trivial
    · have htf : trapO wt o X = false := by simpa using ht
      rw [if_neg ht, htf]
      simp only
      have hmem : memO o Y us = memO o X us := memO_eq o us hYo
      cases hgo : goesO o X with
      | some pc =>
        have hlk : leavesO o.kind = true := by
          rcases goes_kind hgo with e | e
          · rw [e]; rfl
          · revert e; cases o.kind <;> decide
        have hnil : suf = [] := by
          cases suf with
          | nil => rfl
          | cons y ys =>
            have := (hb y (List.mem_cons_self ..)).2.2
            rw [hlk] at this
            cases this
        subst hnil
        obtain ⟨l1, l2, _⟩ := leaves_still hlk
        have e1 : rowLeave X [o] none = some pc := by simp [rowLeave, hgo]
        have e2 : rowRegs X ws [o] Y = Y := by simp [rowRegs, regO_keep l1]
        have e3 : rowMem X [o] us = us := by simp [rowMem, memO_keep l2]
        rw [List.find?_nil, e1, e2, e3]
        exact RanEq.refl _
      | none =>
        have hv : regO o (valO o Y us) Y = regO o (valO o X ws) Y := by
          by_cases h0 : wrO o = 0
          · rw [regO_keep h0, regO_keep h0]
          · rw [valO_eq o hYo (fun e => hw o (List.mem_cons_self ..) (loadK_is e)) h0]
        have e1 : rowLeave X (o :: suf) none = rowLeave X suf none := by simp [rowLeave, hgo]
        rw [hv, hmem, e1]
        exact row_runs wt X ws rest suf _ _ (fun x hx => hg x (List.mem_cons_of_mem _ hx)) hr2
          (fun x hx r hr => (regO_at (by
            rcases (hb x hx).1 with h | h
            · exact .inl h
            · exact .inr (fun e => h.1 (e ▸ hr))) _ _).trans (hY x (List.mem_cons_of_mem _ hx) r hr))
          (fun x hx hl => by
            have hs : storeK o.kind = false := by
              cases hs : storeK o.kind with
              | false => rfl
              | true =>
                have := ((hb x hx).2.1 hs).1
                rw [hl] at this
                cases this
            rw [memO_keep hs]
            exact hw x (List.mem_cons_of_mem _ hx) hl)
theorem rows_run (wt : Nat → Bool) : ∀ (rows : List (List OpN)) (X : Regs) (ws : List Int), (∀ r ∈ rows, RowOK r ∧ ∀ o ∈ r, opG o) → RanEq (rowsZ wt rows X ws) (evalZ wt rows.flatten X ws)
  | [], _, _, _ => trivial
  | r :: rs, X, ws, h => by
    obtain ⟨h1, h2⟩ := h r (List.mem_cons_self ..)
    have := row_runs wt X ws rs.flatten r X ws h2 h1 (fun _ _ _ _ => rfl) (fun _ _ _ => rfl)
    rw [List.flatten_cons]
    refine RanEq.trans ?_ this.symm
    unfold rowsZ
    split
    · trivial
    · split
      · exact RanEq.refl _
      · exact rows_run wt rs _ _ (fun x hx => h x (List.mem_cons_of_mem _ hx))
structure Apart (o b : OpN) : Prop where
  w1 : wrO o = 0 ∨ (wrO o ∉ rdO b ∧ wrO o ≠ wrO b)
  w2 : wrO b = 0 ∨ wrO b ∉ rdO o
  s1 : storeK o.kind = true → loadK b.kind = false ∧ storeK b.kind = false
  s2 : loadK o.kind = true → storeK b.kind = false
  l1 : leavesO o.kind = false
  l2 : leavesO b.kind = false
theorem reg_swap {o b : OpN} (h : wrO o = 0 ∨ wrO o ≠ wrO b) (u v : Int) (X : Regs) : regO b v (regO o u X) = regO o u (regO b v X) := by
  funext k
  unfold regO
  by_cases h1 : wrO o = 0
  · rw [if_pos h1, if_pos h1]
  · rw [if_neg h1, if_neg h1]
    by_cases h2 : wrO b = 0
    · rw [if_pos h2, if_pos h2]
    · rw [if_neg h2, if_neg h2]
      unfold updR
      split
      · split
        · rename_i a c
          rcases h with h | h <;> omega
        · rfl
      · rfl
theorem swap_ends (wt : Nat → Bool) {o b : OpN} (hA : Apart o b) (go : opG o) (gb : opG b) (rest : List OpN) (X : Regs) (ws : List Int) : RanEq (evalZ wt (o :: b :: rest) X ws) (evalZ wt (b :: o :: rest) X ws) := by
  have r1 : ∀ v, ∀ r ∈ rdO b, regO o v X r = X r := fun v r hr => regO_at (by
    rcases hA.w1 with h | h
    · exact .inl h
    · exact .inr (fun e => h.1 (e ▸ hr))) _ _
  have r2 : ∀ v, ∀ r ∈ rdO o, regO b v X r = X r := fun v r hr => regO_at (by
    rcases hA.w2 with h | h
    · exact .inl h
    · exact .inr (fun e => h (e ▸ hr))) _ _
  rw [evalZ_cons wt _ _ _ _ go, evalZ_cons wt _ _ _ _ gb, evalZ_cons wt b _ _ _ gb, evalZ_cons wt o _ _ _ go, goesO_none hA.l1, goesO_none hA.l2, goesO_none hA.l1, goesO_none hA.l2, trapO_eq wt b (r1 _), trapO_eq wt o (r2 _)]
  simp only
  by_cases t1 : trapO wt o X = true
  · rw [if_pos t1, if_pos t1]
    split <;> trivial
  · rw [if_neg t1, if_neg t1]
    by_cases t2 : trapO wt b X = true
    · rw [if_pos t2, if_pos t2]; trivial
    · rw [if_neg t2, if_neg t2]
      have m1 : memO b (regO o (valO o X ws) X) (memO o X ws) = memO o (regO b (valO b X ws) X) (memO b X ws) := by
        rw [memO_eq b _ (r1 _), memO_eq o _ (r2 _)]
        cases hs : storeK o.kind with
        | false => rw [memO_keep hs, memO_keep hs]
        | true => rw [memO_keep (hA.s1 hs).2, memO_keep (hA.s1 hs).2]
      have v1 : ∀ Z, regO b (valO b (regO o (valO o X ws) X) (memO o X ws)) Z = regO b (valO b X ws) Z := by
        intro Z
        by_cases h0 : wrO b = 0
        · rw [regO_keep h0, regO_keep h0]
        · rw [valO_eq b (r1 _) (ws := memO o X ws) (us := ws) (fun e => by
            cases hs : storeK o.kind with
            | false => exact memO_keep hs _ _
            | true =>
              have := (hA.s1 hs).1
              rw [loadK_is e] at this
              cases this) h0]
      have v2 : ∀ Z, regO o (valO o (regO b (valO b X ws) X) (memO b X ws)) Z = regO o (valO o X ws) Z := by
        intro Z
        by_cases h0 : wrO o = 0
        · rw [regO_keep h0, regO_keep h0]
        · rw [valO_eq o (r2 _) (ws := memO b X ws) (us := ws) (fun e => memO_keep (hA.s2 (loadK_is e)) _ _) h0]
      rw [m1, v1, v2, reg_swap (by
        rcases hA.w1 with h | h
        · exact .inl h
        · exact .inr h.2)]
      exact RanEq.refl _
theorem past_ends (wt : Nat → Bool) {o : OpN} (go : opG o) (rest : List OpN) : ∀ (Bs : List OpN), (∀ b ∈ Bs, Apart o b ∧ opG b) → ∀ X ws, RanEq (evalZ wt (o :: (Bs ++ rest)) X ws) (evalZ wt (Bs ++ (o :: rest)) X ws)
  | [], _, X, ws => RanEq.refl _
  | b :: Bs, h, X, ws => by
    obtain ⟨hA, gb⟩ := h b (List.mem_cons_self ..)
    refine (swap_ends wt hA go gb (Bs ++ rest) X ws).trans ?_
    exact ends_cons wt b gb (past_ends wt go rest Bs (fun x hx => h x (List.mem_cons_of_mem _ hx))) X ws
theorem ends_app (wt : Nat → Bool) {xs ys : List OpN} (h : ∀ X ws, RanEq (evalZ wt xs X ws) (evalZ wt ys X ws)) : ∀ (zs : List OpN), (∀ o ∈ zs, opG o) → ∀ X ws, RanEq (evalZ wt (zs ++ xs) X ws) (evalZ wt (zs ++ ys) X ws)
  | [], _, X, ws => h X ws
  | a :: zs, hg, X, ws => ends_cons wt a (hg a (List.mem_cons_self ..)) (ends_app wt h zs (fun x hx => hg x (List.mem_cons_of_mem _ hx))) X ws
/-! The maker of a plan. -/
structure Mk where
  rows : List (List OpN)
  write : Nat → Option Nat
  read : Nat → Option Nat
  stN : Nat
  ldN : Nat
  leave : Nat
  first : Nat
def mk0 : Mk := ⟨[], fun _ => none, fun _ => none, 0, 0, 0, 0⟩
def behindW (m : Mk) (k r : Nat) : Nat := match m.write r with | some w => max k (w + 1) | none => k
def fromR (m : Mk) (o : OpN) : Nat := (rdO o).foldl (behindW m) m.first
def fromW (m : Mk) (o : OpN) (k : Nat) : Nat := if wrO o = 0 then k else match m.read (wrO o) with | some r => max (behindW m k (wrO o)) r | none => behindW m k (wrO o)
def fromM (m : Mk) (o : OpN) : Nat :=
  if loadK o.kind = true then max (fromW m o (fromR m o)) m.stN
  else if storeK o.kind = true then max (max (fromW m o (fromR m o)) m.stN) (m.ldN - 1)
  else if leavesO o.kind = true then max (fromW m o (fromR m o)) m.leave else fromW m o (fromR m o)
def classO (o : OpN) : Nat := if loadK o.kind = true ∨ storeK o.kind = true then 1 else if leavesO o.kind = true then 2 else 0
def roomC (c : Nat) : Nat := if c = 0 then 3 else 1
def countC (c : Nat) (r : List OpN) : Nat := (r.filter fun o => classO o == c).length
def fitsM (rows : List (List OpN)) (k : Nat) (o : OpN) : Bool := decide (rows.length ≤ k) || (decide ((rows.getD k []).length < 4) && decide (countC (classO o) (rows.getD k []) < roomC (classO o)))
def findFit (rows : List (List OpN)) (o : OpN) : Nat → Nat → Nat
  | 0, k => k
  | n + 1, k => if fitsM rows k o = true then k else findFit rows o n (k + 1)
def rowOf (m : Mk) (o : OpN) : Nat := findFit m.rows o (m.rows.length - fromM m o) (fromM m o)
def putRow (rows : List (List OpN)) (k : Nat) (o : OpN) : List (List OpN) := if k < rows.length then rows.set k (rows.getD k [] ++ [o]) else rows ++ List.replicate (k - rows.length) [] ++ [[o]]
def readM (m : Mk) (o : OpN) (k : Nat) : Nat → Option Nat := fun r => if r ∈ rdO o then some (match m.read r with | some q => max q k | none => k) else m.read r
def layM (m : Mk) (o : OpN) : Mk :=
  let k := rowOf m o
  { rows := putRow m.rows k o
    write := if wrO o = 0 then m.write else fun r => if r = wrO o then some k else m.write r
    read := readM m o k
    stN := if storeK o.kind = true then k + 1 else m.stN
    ldN := if loadK o.kind = true then max m.ldN (k + 1) else m.ldN
    leave := max m.leave k
    first := if leavesO o.kind = true then k + 1 else m.first }
def makeZ (ops : List OpN) : List (List OpN) := (ops.foldl layM mk0).rows
structure MkOK (m : Mk) : Prop where
  ne : ∀ r ∈ m.rows, r ≠ []
  len : ∀ r ∈ m.rows, r.length ≤ 4
  room : ∀ r ∈ m.rows, ∀ c, countC c r ≤ roomC c
  ok : ∀ r ∈ m.rows, RowOK r
  wr : ∀ j r, m.rows[j]? = some r → ∀ b ∈ r, wrO b ≠ 0 → ∃ w, m.write (wrO b) = some w ∧ j ≤ w
  wl : ∀ r w, m.write r = some w → w < m.rows.length
  rd : ∀ j r, m.rows[j]? = some r → ∀ b ∈ r, ∀ x ∈ rdO b, ∃ q, m.read x = some q ∧ j ≤ q
  rl : ∀ r q, m.read r = some q → q < m.rows.length
  st : ∀ j r, m.rows[j]? = some r → ∀ b ∈ r, storeK b.kind = true → j < m.stN
  sl : m.stN ≤ m.rows.length
  ld : ∀ j r, m.rows[j]? = some r → ∀ b ∈ r, loadK b.kind = true → j < m.ldN
  ll : m.ldN ≤ m.rows.length
  lv : m.rows.length ≤ m.leave + 1
  le : m.leave ≤ m.rows.length
  fs : ∀ j r, m.rows[j]? = some r → m.first ≤ j → ∀ b ∈ r, leavesO b.kind = false
  fl : m.first ≤ m.rows.length
theorem mk0_ok : MkOK mk0 := by
  refine ⟨?_, ?_, ?_, ?_, ?_, ?_, ?_, ?_, ?_, ?_, ?_, ?_, ?_, ?_, ?_, ?_⟩ <;> simp [mk0]
theorem le_behindW (m : Mk) (k r : Nat) : k ≤ behindW m k r := by
  unfold behindW
  split
  · exact Nat.le_max_left _ _
  · exact Nat.le_refl _
theorem le_foldW (m : Mk) : ∀ (l : List Nat) (k : Nat), k ≤ l.foldl (behindW m) k
  | [], k => Nat.le_refl _
  | r :: l, k => Nat.le_trans (le_behindW m k r) (le_foldW m l _)
theorem foldW_behind (m : Mk) : ∀ (l : List Nat) (k : Nat), ∀ r ∈ l, ∀ w, m.write r = some w → w < l.foldl (behindW m) k
  | r0 :: l, k, r, hr, w, hw => by
    rw [List.foldl_cons]
    rcases List.mem_cons.1 hr with e | e
    · subst e
      have : w < behindW m k r := by
        unfold behindW
        rw [hw]
        exact Nat.lt_of_lt_of_le (Nat.lt_succ_self w) (Nat.le_max_right _ _)
      exact Nat.lt_of_lt_of_le this (le_foldW m l _)
    · exact foldW_behind m l _ r e w hw
theorem foldW_len {m : Mk} (h : MkOK m) : ∀ (l : List Nat) (k : Nat), k ≤ m.rows.length → l.foldl (behindW m) k ≤ m.rows.length
  | [], k, hk => hk
  | r :: l, k, hk => by
    refine foldW_len h l _ ?_
    unfold behindW
    split
    · rename_i w hw
      have := h.wl r w hw
      omega
    · exact hk
structure FromOK (m : Mk) (o : OpN) (k : Nat) : Prop where
  fst : m.first ≤ k
  raw : ∀ r ∈ rdO o, ∀ w, m.write r = some w → w < k
  waw : wrO o ≠ 0 → ∀ w, m.write (wrO o) = some w → w < k
  war : wrO o ≠ 0 → ∀ q, m.read (wrO o) = some q → q ≤ k
  lds : loadK o.kind = true → m.stN ≤ k
  sts : storeK o.kind = true → m.stN ≤ k ∧ m.ldN ≤ k + 1
  lvs : leavesO o.kind = true → m.leave ≤ k
theorem FromOK.mono {m : Mk} {o : OpN} {k k2 : Nat} (h : FromOK m o k) (hk : k ≤ k2) : FromOK m o k2 :=
  ⟨Nat.le_trans h.fst hk, fun r hr w hw => Nat.lt_of_lt_of_le (h.raw r hr w hw) hk, fun h0 w hw => Nat.lt_of_lt_of_le (h.waw h0 w hw) hk, fun h0 q hq => Nat.le_trans (h.war h0 q hq) hk, fun hl => Nat.le_trans (h.lds hl) hk,
    fun hs => ⟨Nat.le_trans (h.sts hs).1 hk, Nat.le_trans (h.sts hs).2 (by omega)⟩, fun hl => Nat.le_trans (h.lvs hl) hk⟩
theorem fromW_ge (m : Mk) (o : OpN) (k : Nat) : k ≤ fromW m o k := by
  unfold fromW
  split
  · exact Nat.le_refl _
  · have := le_behindW m k (wrO o)
    split <;> omega
theorem fromM_ge (m : Mk) (o : OpN) : fromW m o (fromR m o) ≤ fromM m o := by
  unfold fromM
  split
  · exact Nat.le_max_left _ _
  · split
    · exact Nat.le_trans (Nat.le_max_left _ _) (Nat.le_max_left _ _)
    · split
      · exact Nat.le_max_left _ _
      · exact Nat.le_refl _
theorem kinds_apart {k : OpK} : (loadK k = true → storeK k = false ∧ leavesO k = false) ∧ (storeK k = true → leavesO k = false ∧ loadK k = false) ∧ (leavesO k = true → loadK k = false ∧ storeK k = false) := by cases k <;> decide
theorem from_ok {m : Mk} (h : MkOK m) (o : OpN) : FromOK m o (fromM m o) ∧ fromM m o ≤ m.rows.length := by
  have hb := fromM_ge m o
  have hw := fromW_ge m o (fromR m o)
  have hr : m.first ≤ fromR m o := le_foldW m _ _
  have hrl : fromR m o ≤ m.rows.length := foldW_len h _ _ h.fl
  have hwl : fromW m o (fromR m o) ≤ m.rows.length := by
    unfold fromW
    split
    · exact hrl
    · have h1 : behindW m (fromR m o) (wrO o) ≤ m.rows.length := foldW_len h [wrO o] _ hrl
      split
      · rename_i q hq
        have := h.rl _ q hq
        omega
      · exact h1
  constructor
  · refine ⟨by omega, fun r hr w hw => ?_, fun h0 w hw => ?_, fun h0 q hq => ?_, fun hl => ?_, fun hs => ?_, fun hl => ?_⟩
    · have : w < fromR m o := foldW_behind m _ _ r hr w hw
      omega
    · have : w < fromW m o (fromR m o) := by
        unfold fromW
        rw [if_neg h0]
        have h1 : w < behindW m (fromR m o) (wrO o) := foldW_behind m [wrO o] _ _ (List.mem_singleton.2 rfl) w hw
        split <;> omega
      omega
    · have : q ≤ fromW m o (fromR m o) := by
        unfold fromW
        rw [if_neg h0, hq]
        exact Nat.le_max_right _ _
      omega
    · unfold fromM
      rw [if_pos hl]
      exact Nat.le_max_right _ _
    · unfold fromM
      rw [if_neg (by rw [(kinds_apart.2.1 hs).2]; decide), if_pos hs]
      omega
    · unfold fromM
      rw [if_neg (by rw [(kinds_apart.2.2 hl).1]; decide), if_neg (by rw [(kinds_apart.2.2 hl).2]; decide), if_pos hl]
      exact Nat.le_max_right _ _
  · have h1 := h.sl
    have h2 := h.ll
    have h3 := h.le
    unfold fromM
    split
    · omega
    · split
      · omega
      · split
        · omega
        · exact hwl
theorem findFit_ok (rows : List (List OpN)) (o : OpN) : ∀ (n k : Nat), k + n = rows.length → k ≤ findFit rows o n k ∧ findFit rows o n k ≤ rows.length ∧ fitsM rows (findFit rows o n k) o = true
  | 0, k, h => by
    unfold findFit
    refine ⟨Nat.le_refl _, by omega, ?_⟩
    unfold fitsM
    rw [decide_eq_true (by omega)]
    rfl
  | n + 1, k, h => by
    unfold findFit
    by_cases hf : fitsM rows k o = true
    · rw [if_pos hf]
      exact ⟨Nat.le_refl _, by omega, hf⟩
    · rw [if_neg hf]
      obtain ⟨a, b, c⟩ := findFit_ok rows o n (k + 1) (by omega)
      exact ⟨by omega, b, c⟩
theorem rowOf_ok {m : Mk} (h : MkOK m) (o : OpN) : FromOK m o (rowOf m o) ∧ rowOf m o ≤ m.rows.length ∧ fitsM m.rows (rowOf m o) o = true := by
  obtain ⟨h1, h2⟩ := from_ok h o
  obtain ⟨a, b, c⟩ := findFit_ok m.rows o (m.rows.length - fromM m o) (fromM m o) (by omega)
  exact ⟨h1.mono a, b, c⟩
theorem putRow_get {rows : List (List OpN)} {k : Nat} (hk : k ≤ rows.length) (o : OpN) (j : Nat) (r : List OpN) (h : (putRow rows k o)[j]? = some r) : (j ≠ k ∧ rows[j]? = some r) ∨ (j = k ∧ r = rows.getD k [] ++ [o] ∧ (k < rows.length ∨ rows.getD k [] = [])) := by
  unfold putRow at h
  by_cases hl : k < rows.length
  · rw [if_pos hl] at h
    by_cases e : k = j
    · subst e
      rw [List.getElem?_set_self hl] at h
      cases h
      exact .inr ⟨rfl, rfl, .inl hl⟩
    · rw [List.getElem?_set_ne e] at h
      exact .inl ⟨fun x => e x.symm, h⟩
  · rw [if_neg hl] at h
    have e : k = rows.length := by omega
    subst e
    rw [Nat.sub_self, List.replicate_zero, List.append_nil] at h
    have hd : rows.getD rows.length [] = [] := by simp
    by_cases hj : j < rows.length
    · rw [List.getElem?_append_left hj] at h
      exact .inl ⟨by omega, h⟩
    · rw [List.getElem?_append_right (by omega)] at h
      by_cases e2 : j = rows.length
      · subst e2
        rw [Nat.sub_self] at h
        cases h
        exact .inr ⟨rfl, by rw [hd]; rfl, .inr hd⟩
      · rw [List.getElem?_eq_none (by simp; omega)] at h
        cases h
theorem putRow_len {rows : List (List OpN)} {k : Nat} (hk : k ≤ rows.length) (o : OpN) : (putRow rows k o).length = max rows.length (k + 1) := by
  unfold putRow
  split
  · rw [List.length_set]; omega
  · simp; omega
theorem getD_mem {rows : List (List OpN)} {k : Nat} (h : k < rows.length) : rows.getD k [] ∈ rows := by
  rw [List.getD_eq_getElem?_getD, List.getElem?_eq_getElem h]
  exact List.getElem_mem h
theorem getD_get {rows : List (List OpN)} {k : Nat} (h : k < rows.length) : rows[k]? = some (rows.getD k []) := by
  rw [List.getD_eq_getElem?_getD, List.getElem?_eq_getElem h]
  rfl
theorem countC_app (c : Nat) (r : List OpN) (o : OpN) : countC c (r ++ [o]) = countC c r + if classO o = c then 1 else 0 := by
  unfold countC
  rw [List.filter_append, List.length_append]
  by_cases h : classO o = c <;> simp [h]
theorem beside_of {m : Mk} (h : MkOK m) {o : OpN} {k j : Nat} (hf : FromOK m o k) (hj : k ≤ j) {r : List OpN} (hr : m.rows[j]? = some r) {b : OpN} (hb : b ∈ r) :
    (wrO b = 0 ∨ (wrO b ∉ rdO o ∧ wrO b ≠ wrO o)) ∧ (storeK b.kind = true → loadK o.kind = false ∧ storeK o.kind = false) ∧ leavesO b.kind = false := by
  refine ⟨?_, fun hs => ?_, h.fs j r hr (Nat.le_trans hf.fst hj) b hb⟩
  · by_cases h0 : wrO b = 0
    · exact .inl h0
    · obtain ⟨w, hw, hjw⟩ := h.wr j r hr b hb h0
      refine .inr ⟨fun hm => ?_, fun e => ?_⟩
      · have := hf.raw _ hm w hw
        omega
      · rw [e] at hw h0
        have := hf.waw h0 w hw
        omega
  · have hst := h.st j r hr b hb hs
    constructor
    · cases hl : loadK o.kind with
      | false => rfl
      | true =>
        have := hf.lds hl
        omega
    · cases hl : storeK o.kind with
      | false => rfl
      | true =>
        have := (hf.sts hl).1
        omega
theorem apart_of {m : Mk} (h : MkOK m) {o : OpN} {k j : Nat} (hf : FromOK m o k) (hj : k < j) {r : List OpN} (hr : m.rows[j]? = some r) {b : OpN} (hb : b ∈ r) (hlo : leavesO o.kind = false) : Apart o b := by
  obtain ⟨h1, h2, h3⟩ := beside_of h hf (Nat.le_of_lt hj) hr hb
  refine ⟨?_, ?_, fun hs => ⟨?_, ?_⟩, fun hl => ?_, hlo, h3⟩
  · by_cases h0 : wrO o = 0
    · exact .inl h0
    · refine .inr ⟨fun hm => ?_, fun e => ?_⟩
      · obtain ⟨q, hq, hjq⟩ := h.rd j r hr b hb _ hm
        have := hf.war h0 q hq
        omega
      · rcases h1 with e1 | e1
        · omega
        · exact e1.2 e.symm
  · rcases h1 with e | e
    · exact .inl e
    · exact .inr e.1
  · cases hl : loadK b.kind with
    | false => rfl
    | true =>
      have h4 := h.ld j r hr b hb hl
      have h5 := (hf.sts hs).2
      omega
  · cases hl : storeK b.kind with
    | false => rfl
    | true =>
      have := (h2 hl).2
      rw [hs] at this
      cases this
  · cases hs : storeK b.kind with
    | false => rfl
    | true =>
      have := (h2 hs).1
      rw [hl] at this
      cases this
theorem lay_ok {m : Mk} (h : MkOK m) (o : OpN) : MkOK (layM m o) := by
  obtain ⟨hf, hk, hfit⟩ := rowOf_ok h o
  have hrow : (layM m o).rows = putRow m.rows (rowOf m o) o := rfl
  have hlen : (layM m o).rows.length = max m.rows.length (rowOf m o + 1) := by rw [hrow, putRow_len hk]
  have hget := fun j r (hr : (layM m o).rows[j]? = some r) => putRow_get hk o j r hr
  have hmem : ∀ r ∈ (layM m o).rows, r ∈ m.rows ∨ (r = m.rows.getD (rowOf m o) [] ++ [o] ∧ (rowOf m o < m.rows.length ∨ m.rows.getD (rowOf m o) [] = [])) := by
    intro r hr
    obtain ⟨j, hj⟩ := List.mem_iff_getElem?.1 hr
    rcases hget j r hj with ⟨_, h1⟩ | ⟨_, h2, h3⟩
    · exact .inl (List.mem_iff_getElem?.2 ⟨j, h1⟩)
    · exact .inr ⟨h2, h3⟩
  have hfit2 : rowOf m o < m.rows.length → (m.rows.getD (rowOf m o) []).length < 4 ∧ countC (classO o) (m.rows.getD (rowOf m o) []) < roomC (classO o) := by
    intro hl
    unfold fitsM at hfit
    rw [decide_eq_false (by omega), Bool.false_or, Bool.and_eq_true] at hfit
    exact ⟨of_decide_eq_true hfit.1, of_decide_eq_true hfit.2⟩
  refine ⟨?_, ?_, ?_, ?_, ?_, ?_, ?_, ?_, ?_, ?_, ?_, ?_, ?_, ?_, ?_, ?_⟩
  · intro r hr
    rcases hmem r hr with h1 | ⟨rfl, _⟩
    · exact h.ne r h1
    · simp
  · intro r hr
    rcases hmem r hr with h1 | ⟨rfl, h2 | h2⟩
    · exact h.len r h1
    · have := (hfit2 h2).1
      rw [List.length_append]
      show _ + 1 ≤ 4
      omega
    · rw [h2]; exact (by decide : 1 ≤ 4)
  · intro r hr c
    rcases hmem r hr with h1 | ⟨rfl, h2⟩
    · exact h.room r h1 c
    · rw [countC_app]
      by_cases hc : classO o = c
      · subst hc
        rw [if_pos rfl]
        rcases h2 with h2 | h2
        · exact (hfit2 h2).2
        · rw [h2]
          show 0 + 1 ≤ _
          unfold roomC
          split <;> omega
      · rw [if_neg hc]
        rcases h2 with h2 | h2
        · exact h.room _ (getD_mem h2) c
        · rw [h2]; exact Nat.zero_le _
  · intro r hr
    rcases hmem r hr with h1 | ⟨rfl, h2⟩
    · exact h.ok r h1
    · unfold RowOK
      rw [List.pairwise_append]
      rcases h2 with h2 | h2
      · refine ⟨h.ok _ (getD_mem h2), List.pairwise_singleton _ _, fun x hx y hy => ?_⟩
        rw [List.mem_singleton.1 hy]
        exact beside_of h hf (Nat.le_refl _) (getD_get h2) hx
      · rw [h2]
        exact ⟨List.Pairwise.nil, List.pairwise_singleton _ _, fun x hx => by cases hx⟩
  · intro j r hr b hb h0
    show ∃ w, (if wrO o = 0 then m.write else fun r => if r = wrO o then some (rowOf m o) else m.write r) (wrO b) = some w ∧ j ≤ w
    have old : ∀ w, m.write (wrO b) = some w → j ≤ w → ∃ w, (if wrO o = 0 then m.write else fun r => if r = wrO o then some (rowOf m o) else m.write r) (wrO b) = some w ∧ j ≤ w := by
      intro w hw hjw
      by_cases ho : wrO o = 0
      · rw [if_pos ho]
        exact ⟨w, hw, hjw⟩
      · rw [if_neg ho]
        by_cases e : wrO b = wrO o
        · simp only [if_pos e]
          rw [e] at hw
          have := hf.waw ho w hw
          exact ⟨_, rfl, by omega⟩
        · simp only [if_neg e]
          exact ⟨w, hw, hjw⟩
    rcases hget j r hr with ⟨_, h1⟩ | ⟨rfl, rfl, h3⟩
    · obtain ⟨w, hw, hjw⟩ := h.wr j r h1 b hb h0
      exact old w hw hjw
    · rcases List.mem_append.1 hb with hb | hb
      · rcases h3 with h3 | h3
        · obtain ⟨w, hw, hjw⟩ := h.wr _ _ (getD_get h3) b hb h0
          exact old w hw hjw
        · rw [h3] at hb
          cases hb
      · rw [List.mem_singleton.1 hb] at h0 ⊢
        rw [if_neg h0]
        simp only [if_pos rfl]
        exact ⟨_, rfl, Nat.le_refl _⟩
  · intro r w hw
    rw [hlen]
    have hw' : (if wrO o = 0 then m.write else fun r => if r = wrO o then some (rowOf m o) else m.write r) r = some w := hw
    by_cases ho : wrO o = 0
    · rw [if_pos ho] at hw'
      have := h.wl r w hw'
      omega
    · rw [if_neg ho] at hw'
      by_cases e : r = wrO o
      · simp only [if_pos e] at hw'
        cases hw'
        omega
      · simp only [if_neg e] at hw'
        have := h.wl r w hw'
        omega
  · intro j r hr b hb x hx
    show ∃ q, readM m o (rowOf m o) x = some q ∧ j ≤ q
    have old : ∀ q, m.read x = some q → j ≤ q → ∃ q, readM m o (rowOf m o) x = some q ∧ j ≤ q := by
      intro q hq hjq
      unfold readM
      by_cases e : x ∈ rdO o
      · rw [if_pos e, hq]
        exact ⟨_, rfl, by simp only; omega⟩
      · rw [if_neg e]
        exact ⟨q, hq, hjq⟩
    rcases hget j r hr with ⟨_, h1⟩ | ⟨rfl, rfl, h3⟩
    · obtain ⟨q, hq, hjq⟩ := h.rd j r h1 b hb x hx
      exact old q hq hjq
    · rcases List.mem_append.1 hb with hb | hb
      · rcases h3 with h3 | h3
        · obtain ⟨q, hq, hjq⟩ := h.rd _ _ (getD_get h3) b hb x hx
          exact old q hq hjq
        · rw [h3] at hb
          cases hb
      · rw [List.mem_singleton.1 hb] at hx
        unfold readM
        rw [if_pos hx]
        refine ⟨_, rfl, ?_⟩
        split
        · exact Nat.le_max_right _ _
        · exact Nat.le_refl _
  · intro r q hq
    rw [hlen]
    have hq' : readM m o (rowOf m o) r = some q := hq
    unfold readM at hq'
    by_cases e : r ∈ rdO o
    · rw [if_pos e] at hq'
      cases hr : m.read r with
      | none =>
        rw [hr] at hq'
        simp only [Option.some.injEq] at hq'
        omega
      | some q0 =>
        rw [hr] at hq'
        simp only [Option.some.injEq] at hq'
        have := h.rl r q0 hr
        omega
    · rw [if_neg e] at hq'
      have := h.rl r q hq'
      omega
  · intro j r hr b hb hs
    show j < if storeK o.kind = true then rowOf m o + 1 else m.stN
    have old : j < m.stN → j < if storeK o.kind = true then rowOf m o + 1 else m.stN := by
      intro hj
      split
      · rename_i hso
        have := (hf.sts hso).1
        omega
      · exact hj
    rcases hget j r hr with ⟨_, h1⟩ | ⟨rfl, rfl, h3⟩
    · exact old (h.st j r h1 b hb hs)
    · rcases List.mem_append.1 hb with hb | hb
      · rcases h3 with h3 | h3
        · exact old (h.st _ _ (getD_get h3) b hb hs)
        · rw [h3] at hb
          cases hb
      · rw [List.mem_singleton.1 hb] at hs
        rw [if_pos hs]
        omega
  · rw [hlen]
    show (if storeK o.kind = true then rowOf m o + 1 else m.stN) ≤ _
    have := h.sl
    split <;> omega
  · intro j r hr b hb hs
    show j < if loadK o.kind = true then max m.ldN (rowOf m o + 1) else m.ldN
    have old : j < m.ldN → j < if loadK o.kind = true then max m.ldN (rowOf m o + 1) else m.ldN := by
      intro hj
      split <;> omega
    rcases hget j r hr with ⟨_, h1⟩ | ⟨rfl, rfl, h3⟩
    · exact old (h.ld j r h1 b hb hs)
    · rcases List.mem_append.1 hb with hb | hb
      · rcases h3 with h3 | h3
        · exact old (h.ld _ _ (getD_get h3) b hb hs)
        · rw [h3] at hb
          cases hb
      · rw [List.mem_singleton.1 hb] at hs
        rw [if_pos hs]
        omega
  · rw [hlen]
    show (if loadK o.kind = true then max m.ldN (rowOf m o + 1) else m.ldN) ≤ _
    have := h.ll
    split <;> omega
  · rw [hlen]
    show _ ≤ max m.leave (rowOf m o) + 1
    have := h.lv
    omega
  · rw [hlen]
    show max m.leave (rowOf m o) ≤ _
    have := h.le
    omega
  · intro j r hr hj b hb
    have hj' : (if leavesO o.kind = true then rowOf m o + 1 else m.first) ≤ j := hj
    by_cases hlo : leavesO o.kind = true
    · rw [if_pos hlo] at hj'
      rcases hget j r hr with ⟨h0, h1⟩ | ⟨rfl, _⟩
      · exact h.fs j r h1 (by have := hf.fst; omega) b hb
      · omega
    · rw [if_neg hlo] at hj'
      rcases hget j r hr with ⟨_, h1⟩ | ⟨rfl, rfl, h3⟩
      · exact h.fs j r h1 hj' b hb
      · rcases List.mem_append.1 hb with hb | hb
        · rcases h3 with h3 | h3
          · exact h.fs _ _ (getD_get h3) hj' b hb
          · rw [h3] at hb
            cases hb
        · rw [List.mem_singleton.1 hb]
          simpa using hlo
  · rw [hlen]
    show (if leavesO o.kind = true then rowOf m o + 1 else m.first) ≤ _
    have := h.fl
    split <;> omega
end Go.Proofs.YtlnefmgiiogcmaaGreatDoor
namespace Go.Proofs.YtlnefmgiiogcmaaGreatDoor
open Go.RowKit
theorem split_at {α : Type} (l : List (List α)) {k : Nat} (h : k < l.length) : l = l.take k ++ l.getD k [] :: l.drop (k + 1) := by
  rw [List.getD_eq_getElem?_getD, List.getElem?_eq_getElem h]
  show l = l.take k ++ l[k] :: l.drop (k + 1)
  rw [← List.drop_eq_getElem_cons h, List.take_append_drop]
theorem putRow_split {rows : List (List OpN)} {k : Nat} (h : k < rows.length) (o : OpN) : putRow rows k o = rows.take k ++ (rows.getD k [] ++ [o]) :: rows.drop (k + 1) := by
  unfold putRow
  rw [if_pos h, List.set_eq_take_append_cons_drop, if_pos h]
theorem putRow_end {rows : List (List OpN)} {k : Nat} (h : k = rows.length) (o : OpN) : putRow rows k o = rows ++ [[o]] := by
  unfold putRow
  rw [if_neg (by omega), h, Nat.sub_self, List.replicate_zero, List.append_nil]
theorem lay_ends (wt : Nat → Bool) {m : Mk} (h : MkOK m) {o : OpN} (go : opG o) (hg : ∀ r ∈ m.rows, ∀ b ∈ r, opG b) (rest : List OpN) (X : Regs) (ws : List Int) :
    RanEq (evalZ wt ((layM m o).rows.flatten ++ rest) X ws) (evalZ wt (m.rows.flatten ++ (o :: rest)) X ws) := by
  obtain ⟨hf, hk, _⟩ := rowOf_ok h o
  have hrow : (layM m o).rows = putRow m.rows (rowOf m o) o := rfl
  rw [hrow]
  by_cases hl : rowOf m o < m.rows.length
  · rw [putRow_split hl]
    have e2 : m.rows.flatten = (m.rows.take (rowOf m o)).flatten ++ (m.rows.getD (rowOf m o) [] ++ (m.rows.drop (rowOf m o + 1)).flatten) := by
      conv => lhs; rw [split_at m.rows hl]
      rw [List.flatten_append, List.flatten_cons]
    rw [e2, List.flatten_append, List.flatten_cons]
    simp only [List.append_assoc, List.cons_append, List.nil_append]
    have hA : ∀ r ∈ m.rows.take (rowOf m o), ∀ b ∈ r, opG b := fun r hr => hg r (List.mem_of_mem_take hr)
    have hA2 : ∀ b ∈ (m.rows.take (rowOf m o)).flatten, opG b := fun b hb => by
      obtain ⟨r, hr, hbr⟩ := List.mem_flatten.1 hb
      exact hA r hr b hbr
    refine ends_app wt (fun X ws => ends_app wt (fun X ws => ?_) _ (hg _ (getD_mem hl)) X ws) _ hA2 X ws
    have key : ∀ b ∈ (m.rows.drop (rowOf m o + 1)).flatten, leavesO o.kind = false → Apart o b ∧ opG b := by
      intro b hb hlo
      obtain ⟨r, hr, hbr⟩ := List.mem_flatten.1 hb
      obtain ⟨j, hj⟩ := List.mem_iff_getElem?.1 hr
      rw [List.getElem?_drop] at hj
      exact ⟨apart_of h hf (show rowOf m o < rowOf m o + 1 + j by omega) hj hbr hlo, hg r (List.mem_of_mem_drop hr) b hbr⟩
    cases hlo : leavesO o.kind with
    | true =>
      have h1 := hf.lvs hlo
      have h2 := h.lv
      have hnil : m.rows.drop (rowOf m o + 1) = [] := List.drop_eq_nil_of_le (by omega)
      rw [hnil]
      exact RanEq.refl _
    | false => exact past_ends wt go rest _ (fun b hb => key b hb hlo) X ws
  · rw [putRow_end (by omega), List.flatten_append]
    simp only [List.flatten_cons, List.flatten_nil, List.append_assoc, List.cons_append, List.nil_append]
    exact RanEq.refl _
theorem putRow_perm {rows : List (List OpN)} {k : Nat} (hk : k ≤ rows.length) (o : OpN) : (putRow rows k o).flatten.Perm (o :: rows.flatten) := by
  by_cases hl : k < rows.length
  · rw [putRow_split hl]
    have e2 : rows.flatten = (rows.take k).flatten ++ (rows.getD k [] ++ (rows.drop (k + 1)).flatten) := by
      conv => lhs; rw [split_at rows hl]
      rw [List.flatten_append, List.flatten_cons]
    rw [e2, List.flatten_append, List.flatten_cons]
    refine List.Perm.trans ?_ (List.perm_middle (l₁ := (rows.take k).flatten))
    refine List.Perm.append_left _ ?_
    rw [List.append_assoc]
    exact List.perm_middle
  · rw [putRow_end (by omega), List.flatten_append]
    rw [List.flatten_cons, List.flatten_nil, List.append_nil]
    exact List.perm_append_comm (l₁ := rows.flatten) (l₂ := [o])
structure MkAt (m : Mk) (ops : List OpN) : Prop where
  ok : MkOK m
  perm : m.rows.flatten.Perm ops
  ends : ∀ wt rest X ws, RanEq (evalZ wt (m.rows.flatten ++ rest) X ws) (evalZ wt (ops ++ rest) X ws)
theorem MkAt.all {m : Mk} {ops : List OpN} {p : OpN → Prop} (h : MkAt m ops) (hp : ∀ o ∈ ops, p o) : ∀ r ∈ m.rows, ∀ b ∈ r, p b := fun r hr b hb => hp b (h.perm.mem_iff.1 (List.mem_flatten.2 ⟨r, hr, hb⟩))
theorem mk0_at : MkAt mk0 [] := ⟨mk0_ok, List.Perm.refl _, fun _ _ _ _ => RanEq.refl _⟩
theorem MkAt.lay {m : Mk} {ops : List OpN} (h : MkAt m ops) {o : OpN} (go : opG o) (hg : ∀ x ∈ ops, opG x) : MkAt (layM m o) (ops ++ [o]) where
  ok := lay_ok h.ok o
  perm := by
    have h1 := putRow_perm (rowOf_ok h.ok o).2.1 o
    refine List.Perm.trans h1 (List.Perm.trans (List.Perm.cons o h.perm) ?_)
    exact (List.perm_append_comm (l₁ := [o]) (l₂ := ops))
  ends wt rest X ws := by
    refine RanEq.trans (lay_ends wt h.ok go (h.all hg) rest X ws) ?_
    rw [List.append_assoc]
    exact h.ends wt (o :: rest) X ws
theorem make_at : ∀ (ops pre : List OpN) (m : Mk), MkAt m pre → (∀ x ∈ pre ++ ops, opG x) → MkAt (ops.foldl layM m) (pre ++ ops)
  | [], pre, m, h, _ => by rw [List.append_nil]; exact h
  | o :: ops, pre, m, h, hg => by
    have := make_at ops (pre ++ [o]) (layM m o) (h.lay (hg o (by simp)) (fun x hx => hg x (by simp [hx]))) (fun x hx => hg x (by simpa using hx))
    simpa using this
theorem makeZ_at {ops : List OpN} (hg : ∀ x ∈ ops, opG x) : MkAt (ops.foldl layM mk0) ops := by
  simpa using make_at ops [] mk0 mk0_at (by simpa using hg)
theorem makeZ_ends (wt : Nat → Bool) {ops : List OpN} (hg : ∀ x ∈ ops, opG x) (X : Regs) (ws : List Int) : RanEq (rowsZ wt (makeZ ops) X ws) (evalZ wt ops X ws) := by
  have h := makeZ_at hg
  have h1 := rows_run wt (makeZ ops) X ws (fun r hr => ⟨h.ok.ok r hr, h.all hg r hr⟩)
  have h2 := h.ends wt [] X ws
  rw [List.append_nil, List.append_nil] at h2
  exact h1.trans h2
structure PlanOK (many : Nat) (rows : List (List OpN)) : Prop where
  m0 : 1 ≤ many
  m1 : many ≤ 24
  len : rows.length ≤ 100
  ne : 0 < rows.length
  row : ∀ r ∈ rows, 0 < r.length ∧ r.length ≤ 4
  good : ∀ r ∈ rows, ∀ o ∈ r, o.at' < many ∧ opG o ∧ Reg32 o.imm
  room : ∀ r ∈ rows, ∀ c, countC c r ≤ roomC c
  once : ∀ r ∈ rows, r.Pairwise (fun x y => wrO x = 0 ∨ wrO x ≠ wrO y)
  out : ∀ i (h : i < rows.length), (∃ o ∈ rows[i], outK o.kind = true) ↔ i + 1 = rows.length
  st : storesO rows.flatten ≤ 8
theorem storesO_perm {a b : List OpN} (h : a.Perm b) : storesO a = storesO b := (h.filter _).length_eq
theorem rows_le : ∀ (rows : List (List OpN)), (∀ r ∈ rows, r ≠ []) → rows.length ≤ rows.flatten.length
  | [], _ => Nat.le_refl _
  | r :: rs, h => by
    have h1 := rows_le rs (fun x hx => h x (List.mem_cons_of_mem _ hx))
    have h2 : 0 < r.length := List.length_pos_iff.2 (h r (List.mem_cons_self ..))
    rw [List.flatten_cons, List.length_append, List.length_cons]
    omega
theorem makeZ_ok {many : Nat} {ops : List OpN} (h : CodeOK many ops) : PlanOK many (makeZ ops) := by
  have hg : ∀ x ∈ ops, opG x := fun x hx => (h.good x hx).2.1
  have hm := makeZ_at hg
  have hlen : (makeZ ops).flatten.length = ops.length := hm.perm.length_eq
  refine ⟨h.m0, h.m1, ?_, ?_, fun r hr => ⟨List.length_pos_iff.2 (hm.ok.ne r hr), hm.ok.len r hr⟩, hm.all h.good, hm.ok.room, fun r hr => (hm.ok.ok r hr).imp (fun {x y} hb => hb.1.imp id (fun hh => hh.2)), ?_, ?_⟩
  · have := rows_le (makeZ ops) hm.ok.ne
    have := h.len
    omega
  · cases hr : makeZ ops with
    | nil =>
      have := h.ne
      rw [hr] at hlen
      simp at hlen
      omega
    | cons a b => simp
  · obtain ⟨z, hz⟩ : ∃ z, ops.length = z + 1 := ⟨ops.length - 1, by have := h.ne; omega⟩
    have hsp : ops = ops.take z ++ [ops[z]'(by omega)] := by
      conv => lhs; rw [← List.take_append_drop z ops]
      rw [List.drop_eq_getElem_cons (by omega), List.drop_eq_nil_of_le (by omega)]
    have hol : outK (ops[z]'(by omega)).kind = true := by
      rw [h.out z (by omega)]
      exact decide_eq_true (by omega)
    have hno : ∀ o ∈ ops.take z, outK o.kind = false := by
      intro o ho
      obtain ⟨j, hj, rfl⟩ := List.getElem_of_mem ho
      rw [List.length_take] at hj
      rw [List.getElem_take, h.out j (by omega)]
      exact decide_eq_false (by omega)
    have hm2 := makeZ_at (fun x hx => hg x (List.mem_of_mem_take hx) : ∀ x ∈ ops.take z, opG x)
    have hmk : makeZ ops = (layM ((ops.take z).foldl layM mk0) (ops[z]'(by omega))).rows := by
      unfold makeZ
      conv => lhs; rw [hsp]
      rw [List.foldl_append]
      rfl
    generalize hmm : (ops.take z).foldl layM mk0 = m at *
    generalize ops[z]'(by omega) = last at *
    rw [hmk]
    obtain ⟨hf, hk, _⟩ := rowOf_ok hm2.ok last
    have hlk : leavesO last.kind = true := by revert hol; cases last.kind <;> decide
    have h1 := hf.lvs hlk
    have h2 := hm2.ok.lv
    have hrl : (layM m last).rows.length = rowOf m last + 1 := by
      show (putRow m.rows (rowOf m last) last).length = _
      rw [putRow_len hk]
      omega
    intro i hi
    have hget := putRow_get hk last i _ (List.getElem?_eq_getElem hi)
    rw [hrl]
    constructor
    · rintro ⟨o, ho, hoo⟩
      rcases hget with ⟨hne, h3⟩ | ⟨rfl, _⟩
      · have := hm2.all hno _ (List.mem_iff_getElem?.2 ⟨i, h3⟩) o ho
        rw [hoo] at this
        cases this
      · rfl
    · intro hi2
      rcases hget with ⟨hne, h3⟩ | ⟨_, h3, _⟩
      · omega
      · exact ⟨last, by rw [h3]; simp, hol⟩
  · have hp : (makeZ ops).flatten.Perm ops := hm.perm
    rw [storesO_perm hp]
    exact h.st
/-! Codes that were made better are right codes. -/
theorem CodeOK.last {many : Nat} {ops : List OpN} (h : CodeOK many ops) : ∃ a last, ops = a ++ [last] ∧ outK last.kind = true := by
  obtain ⟨z, hz⟩ : ∃ z, ops.length = z + 1 := ⟨ops.length - 1, by have := h.ne; omega⟩
  refine ⟨ops.take z, ops[z]'(by omega), ?_, ?_⟩
  · conv => lhs; rw [← List.take_append_drop z ops]
    rw [List.drop_eq_getElem_cons (by omega), List.drop_eq_nil_of_le (by omega)]
  · rw [h.out z (by omega)]
    exact decide_eq_true (by omega)
theorem outLast_of : ∀ (ops : List OpN), (∀ i (h : i < ops.length), outK ops[i].kind = decide (i + 1 = ops.length)) → OutLast ops
  | [], _ => trivial
  | o :: os, h => by
    refine ⟨fun e => ?_, outLast_of os (fun i hi => ?_)⟩
    · have := h 0 (by simp)
      rw [List.getElem_cons_zero, e] at this
      have := of_decide_eq_true this.symm
      simp at this
      exact this
    · have := h (i + 1) (by simp; omega)
      rw [List.getElem_cons_succ] at this
      rw [this]
      simp
theorem out_of_last : ∀ (ops : List OpN), OutLast ops → (∃ a last, ops = a ++ [last] ∧ outK last.kind = true) → ∀ i (h : i < ops.length), outK ops[i].kind = decide (i + 1 = ops.length)
  | [], _, _, i, h => by simp at h
  | o :: os, hl, ⟨a, last, e, ho⟩, i, h => by
    cases os with
    | nil =>
      have hi : i = 0 := by simp at h; omega
      subst hi
      cases a with
      | nil =>
        simp at e
        subst e
        simp [ho]
      | cons b a =>
        simp at e
    | cons o2 os2 =>
      have hne : outK o.kind = false := by
        cases hq : outK o.kind with
        | false => rfl
        | true =>
          have := hl.1 hq
          cases this
      cases i with
      | zero => simp [hne]
      | succ i =>
        cases a with
        | nil => simp at e
        | cons b a =>
          simp only [List.cons_append, List.cons.injEq] at e
          have := out_of_last (o2 :: os2) hl.2 ⟨a, last, e.2, ho⟩ i (by simpa using h)
          rw [List.getElem_cons_succ, this]
          simp
theorem sorted_pair : ∀ (ops : List OpN), (∀ i (h : i + 1 < ops.length), (ops[i]'(by omega)).at' ≤ ops[i + 1].at') → ops.Pairwise (fun x y => x.at' ≤ y.at')
  | [], _ => .nil
  | [o], _ => List.pairwise_singleton _ _
  | o :: o2 :: os, h => by
    have ih := sorted_pair (o2 :: os) (fun i hi => by
      have := h (i + 1) (by simp at hi ⊢; omega)
      simpa using this)
    refine List.pairwise_cons.2 ⟨fun y hy => ?_, ih⟩
    have h0 : o.at' ≤ o2.at' := h 0 (by simp)
    rcases List.mem_cons.1 hy with rfl | hy
    · exact h0
    · exact Nat.le_trans h0 ((List.pairwise_cons.1 ih).1 y hy)
theorem pair_sorted {ops : List OpN} (h : ops.Pairwise (fun x y => x.at' ≤ y.at')) : ∀ i (h : i + 1 < ops.length), (ops[i]'(by omega)).at' ≤ ops[i + 1].at' := fun i hi => List.pairwise_iff_getElem.1 h i (i + 1) (by omega) hi (by omega)
theorem storesO_sub {a b : List OpN} (h : a.Sublist b) : storesO a ≤ storesO b := (h.filter _).length_le
theorem sweep1_ok {many : Nat} {l l' : List OpN} (h : CodeOK many l) (hs : sweep1 l = some l') : CodeOK many l' := by
  have hsub := sweep1_sub l l' hs
  have hlast := sweep1_last l l' hs h.last
  refine ⟨h.m0, h.m1, Nat.le_trans hsub.length_le h.len, ?_, fun o ho => h.good o (hsub.subset ho), ?_, ?_, Nat.le_trans (storesO_sub hsub) h.st⟩
  · obtain ⟨a, last, rfl, _⟩ := hlast
    simp
  · exact out_of_last l' ((outLast_of l h.out).sub hsub) hlast
  · exact pair_sorted ((sorted_pair l h.sorted).sublist hsub)
theorem sweepN_ok {many : Nat} (wt : Nat → Bool) : ∀ (n : Nat) (l : List OpN), CodeOK many l → CodeOK many (sweepN n l) ∧ ∀ X ws, RanEq (evalZ wt l X ws) (evalZ wt (sweepN n l) X ws)
  | 0, l, h => ⟨h, fun _ _ => RanEq.refl _⟩
  | n + 1, l, h => by
    unfold sweepN
    cases hs : sweep1 l with
    | none => exact ⟨h, fun _ _ => RanEq.refl _⟩
    | some l' =>
      obtain ⟨h1, h2⟩ := sweepN_ok wt n l' (sweep1_ok h hs)
      exact ⟨h1, fun X ws => (sweep1_ends wt l l' hs (fun o ho => (h.good o ho).2.1) (outLast_of l h.out) X ws).trans (h2 X ws)⟩
theorem SameL.length {a b : List OpN} (h : SameL a b) : b.length = a.length := by
  induction h with
  | nil => rfl
  | cons _ _ ih => simp [ih]
theorem SameL.get {a b : List OpN} (h : SameL a b) : ∀ i (ha : i < a.length) (hb : i < b.length), SameO a[i] b[i] := by
  induction h with
  | nil => intro i ha; simp at ha
  | cons h1 _ ih =>
    intro i ha hb
    cases i with
    | zero => exact h1
    | succ i => exact ih i (by simpa using ha) (by simpa using hb)
theorem SameL.stores {a b : List OpN} (h : SameL a b) : storesO b = storesO a := by
  unfold storesO
  induction h with
  | nil => rfl
  | cons h1 _ ih =>
    rw [List.filter_cons, List.filter_cons, h1.st]
    split
    · rw [List.length_cons, List.length_cons, ih]
    · exact ih
theorem SameL.ok {many : Nat} {a b : List OpN} (h : SameL a b) (hc : CodeOK many a) : CodeOK many b := by
  have hl := h.length
  refine ⟨hc.m0, hc.m1, by rw [hl]; exact hc.len, by rw [hl]; exact hc.ne, fun o ho => ?_, fun i hi => ?_, fun i hi => ?_, by rw [h.stores]; exact hc.st⟩
  · obtain ⟨i, hi, rfl⟩ := List.getElem_of_mem ho
    have hs := h.get i (by omega) hi
    exact ⟨by rw [hs.at']; exact (hc.good _ (List.getElem_mem (by omega))).1, hs.g, hs.imm⟩
  · rw [(h.get i (by omega) hi).out, hc.out i (by omega), hl]
  · rw [(h.get i (by omega) (by omega)).at', (h.get (i + 1) (by omega) hi).at']
    exact hc.sorted i (by omega)
def optZ (level : Nat) (l : List OpN) : List OpN := let a := if 0 < level then foldZ (fun _ => none) l else l; if 1 < level then sweepZ a else a
theorem optZ_ok {many level : Nat} {l : List OpN} (h : CodeOK many l) : CodeOK many (optZ level l) ∧ ∀ wt X ws, X 0 = 0 → RanEq (evalZ wt l X ws) (evalZ wt (optZ level l) X ws) := by
  have hfold : CodeOK many (if 0 < level then foldZ (fun _ => none) l else l) ∧ ∀ wt X ws, X 0 = 0 → RanEq (evalZ wt l X ws) (evalZ wt (if 0 < level then foldZ (fun _ => none) l else l) X ws) := by
    by_cases h0 : 0 < level
    · rw [if_pos h0]
      exact ⟨(foldZ_same l _ (fun k v e => by cases e) (fun o ho => (h.good o ho).2)).ok h, fun wt X ws hx => RanEq.of_eq (foldZ_ends wt l _ X ws ⟨hx, fun k v e => by cases e⟩ (fun o ho => (h.good o ho).2.1)).symm⟩
    · rw [if_neg h0]
      exact ⟨h, fun wt X ws _ => RanEq.refl _⟩
  unfold optZ
  simp only
  by_cases h1 : 1 < level
  · rw [if_pos h1]
    exact ⟨(sweepN_ok (fun _ => false) _ _ hfold.1).1, fun wt X ws hx => (hfold.2 wt X ws hx).trans ((sweepN_ok wt _ _ hfold.1).2 X ws)⟩
  · rw [if_neg h1]
    exact hfold
theorem host_ends {many level : Nat} {l : List OpN} (h : CodeOK many l) (wt : Nat → Bool) (X : Regs) (ws : List Int) (hx : X 0 = 0) : PlanOK many (makeZ (optZ level l)) ∧ RanEq (evalZ wt l X ws) (rowsZ wt (makeZ (optZ level l)) X ws) := by
  obtain ⟨h1, h2⟩ := optZ_ok (level := level) h
  exact ⟨makeZ_ok h1, (h2 wt X ws hx).trans (makeZ_ends wt (fun x hx => (h1.good x hx).2.1) X ws).symm⟩
end Go.Proofs.YtlnefmgiiogcmaaGreatDoor
namespace Go.Proofs.YtlnefmgiiogcmaaGreatDoor
open Go.RowKit
def resV (o : OpN) (X : Regs) (us : List Int) : Int := match o.kind with | .store => X o.b.toNat | .cond => X o.a | .out => X o.a | .outr => X o.a | .overP => 0 | .overM => 0 | _ => valO o X us
def resB (o : OpN) (X : Regs) : Int := match o.kind with | .store => (X o.a + o.imm) % 4294967296 | _ => 0
theorem resV_wr {o : OpN} (h : wrO o ≠ 0) (X : Regs) (us : List Int) : resV o X us = valO o X us := by
  obtain ⟨k, d, a, b, im, n⟩ := o
  cases k <;> first | rfl | exact absurd rfl h
theorem resV_leave {o : OpN} (h : leavesO o.kind = true) (X : Regs) (us : List Int) : resV o X us = X o.a := by
  obtain ⟨k, d, a, b, im, n⟩ := o
  cases k <;> first | rfl | exact absurd (show false = true from h) (by decide)
def rowWaits (X : Regs) (l : List OpN) (W : List StoW) : List StoW := l.foldl (fun W o => waitsO o X W) W
theorem row_mem (ws : List Int) (X : Regs) : ∀ (l : List OpN) (W : List StoW), rowMem X l (applyW ws W) = applyW ws (rowWaits X l W)
  | [], W => rfl
  | o :: l, W => by
    show rowMem X l (memO o X (applyW ws W)) = applyW ws (rowWaits X l (waitsO o X W))
    rw [mem_waits, row_mem ws X l]
theorem rowWaits_len (X : Regs) : ∀ (l : List OpN) (W : List StoW), (rowWaits X l W).length = W.length + storesO l
  | [], W => rfl
  | o :: l, W => by
    show (rowWaits X l (waitsO o X W)).length = _
    rw [rowWaits_len X l, waits_len, show o :: l = [o] ++ l from rfl, storesO_app]
    have : storesO [o] = if storeK o.kind = true then 1 else 0 := by
      unfold storesO
      cases h : storeK o.kind <;> simp [h]
    omega
theorem rowRegs_word (us : List Int) {X : Regs} (hX : RegsOK X) : ∀ (l : List OpN) (Y : Regs), (∀ o ∈ l, Reg32 o.imm) → RegsOK Y → RegsOK (rowRegs X us l Y)
  | [], Y, _, hY => hY
  | o :: l, Y, h, hY => by
    refine rowRegs_word us hX l _ (fun x hx => h x (List.mem_cons_of_mem _ hx)) ?_
    show RegsOK (regO o (valO o X us) Y)
    unfold regO
    split
    · exact hY
    · exact hY.upd (valO_word o hX (h o (List.mem_cons_self ..))) _
theorem rowRegs_snoc (X Y : Regs) (us : List Int) (l : List OpN) (o : OpN) : rowRegs X us (l ++ [o]) Y = regO o (valO o X us) (rowRegs X us l Y) := by
  unfold rowRegs
  rw [List.foldl_append]
  rfl
theorem rowWaits_snoc (X : Regs) (W : List StoW) (l : List OpN) (o : OpN) : rowWaits X (l ++ [o]) W = waitsO o X (rowWaits X l W) := by
  unfold rowWaits
  rw [List.foldl_append]
  rfl
theorem rowLeave_snoc (X : Regs) (p : Option Int) (l : List OpN) (o : OpN) : rowLeave X (l ++ [o]) p = match goesO o X with | some pc => some pc | none => rowLeave X l p := by
  unfold rowLeave
  rw [List.foldl_append]
  rfl
theorem rows_trap {wt : Nat → Bool} {r : List OpN} {rs : List (List OpN)} {X : Regs} {ws : List Int} {o : OpN} (h : r.find? (fun o => trapO wt o X) = some o) : rowsZ wt (r :: rs) X ws = .trap o.at' := by
  show (match r.find? (fun o => trapO wt o X) with | some o => _ | none => _) = _
  rw [h]
theorem rows_leave {wt : Nat → Bool} {r : List OpN} {rs : List (List OpN)} {X : Regs} {ws : List Int} {W : List StoW} {pc : Int} (h : r.find? (fun o => trapO wt o X) = none) (hl : rowLeave X r none = some pc) : rowsZ wt (r :: rs) X (applyW ws W) = .leave pc (rowRegs X (applyW ws W) r X) (applyW ws (rowWaits X r W)) := by
  show (match r.find? (fun o => trapO wt o X) with | some o => _ | none => _) = _
  rw [h]
  show (match rowLeave X r none with | some pc => _ | none => _) = _
  rw [hl, row_mem]
theorem rows_next {wt : Nat → Bool} {r : List OpN} {rs : List (List OpN)} {X : Regs} {ws : List Int} {W : List StoW} (h : r.find? (fun o => trapO wt o X) = none) (hl : rowLeave X r none = none) : rowsZ wt (r :: rs) X (applyW ws W) = rowsZ wt rs (rowRegs X (applyW ws W) r X) (applyW ws (rowWaits X r W)) := by
  show (match r.find? (fun o => trapO wt o X) with | some o => _ | none => _) = _
  rw [h]
  show (match rowLeave X r none with | some pc => _ | none => _) = _
  rw [hl, row_mem]
end Go.Proofs.YtlnefmgiiogcmaaGreatDoor
