/- The state of an assembler in memory; the walk of (*assembler).here. Conditions: as each theorem states. The walk of (*assembler).line at a label. Conditions: as each theorem states. The walk of (*assembler).line at a word and at an instruction. Conditions: as each theorem states. A line that is well, whichever it is; lines one behind the other. Conditions: as each theorem states. The walk of asm.Assemble over lines that are well and wait for no label. Conditions: as each theorem states. The walk of (*assembler).line at a branch to a label. Conditions: as each theorem states. A line that is well, branches to labels too; lines one behind the other; branches settled one behind the other. Conditions: as each theorem states. The walk of (*assembler).settle. Conditions: as each theorem states. The walk of asm.Assemble over lines that are well, branches to labels too. Conditions: as each theorem states. The plain law of assembling: the words that lines make, or the line and the number of what is wrong. No program in sight. Conditions: as each theorem states. The walk of (*assembler).line at a line that is wrong. Conditions: as each theorem states. The walk of (*assembler).settle where it fails. Conditions: as each theorem states. The walk of asm.Assemble over any lines. Conditions: as each theorem states. -/
import Derived.Test.YtnppegldebocmaaGreatDoorLabK
import Derived.Maps.OwnSet
import Derived.Deep.AppendLies
import Derived.Deep.RegionLaw
import Derived.Deep.CutBlock
import Derived.Deep.RegionWith
import Derived.Test.YtnppegldebocmaaGreatDoorParse
import Derived.Laws.OwnMore
namespace Go.Proofs.YtnppegldebocmaaGreatDoor
open Go.RowKit Go.Maps
set_option linter.unusedVariables false
/-- The assembler's block. -/
abbrev AB (w : World) (ab : Nat) (base : Int) (wv : Value) (lm : Nat) (qv : Value) : Prop := w.heap[ab]? = some (.cells #[.int .u32 base, wv, .map (some lm), qv] 91 (0, 0))
theorem AB.cells {w : World} {ab : Nat} {base : Int} {wv : Value} {lm : Nat} {qv : Value} (h : AB w ab base wv lm qv) :
    w.cell? ⟨ab, 0, none⟩ = some (.int .u32 base) ∧ w.cell? ⟨ab, 1, none⟩ = some wv ∧ w.cell? ⟨ab, 2, none⟩ = some (.map (some lm)) ∧ w.cell? ⟨ab, 3, none⟩ = some qv ∧
    w.frozen? ⟨ab, 1, none⟩ = false ∧ w.frozen? ⟨ab, 3, none⟩ = false := by
  unfold AB at h
  refine ⟨?_, ?_, ?_, ?_, ?_, ?_⟩ <;> simp [World.cell?, World.frozen?, h]
/-- A branch that waits, in cells. -/
def waitC (q : Int × Int × List UInt8) : List Value := [.int .i64 q.1, .int .i64 q.2.1, .string (bsl q.2.2)]
theorem mapLaw : Keyed Tryz.prog 9 := string_keyed Tryz.underlying9
theorem zeroE32 (w : World) : (zeroValue 22).run Tryz.prog w = .ok (.int .u32 0) w := by kernel_rfl
/-- An assembler as memory has it: base, words, labels, branches that wait. -/
structure AsW (B : Nat) (w0 w : World) (ab : Nat) (base : Int) (wv : Value) (ws : List Int) (lm n : Nat) (D : DataW Unit) (qv : Value) (qs : List (Int × Int × List UInt8)) : Prop where
  blk : AB w ab base wv lm qv
  words : w.ownsRow B 22 1 wv ws.length (ws.map (.int .u32))
  waits : w.ownsRow B 97 3 qv qs.length (qs.flatMap waitC)
  labels : w.ownsMap Tryz.prog 9 (plainElem Tryz.prog 22) lm n D
  below : Below B w0 w
  lo : B ≤ ab
  lom : B ≤ lm
  size : B ≤ w.heap.size
theorem AsW.trans {B : Nat} {w0 w w' : World} {ab : Nat} {base : Int} {wv : Value} {ws : List Int} {lm n : Nat} {D : DataW Unit} {qv : Value} {qs : List (Int × Int × List UInt8)} (h : AsW B w0 w ab base wv ws lm n D qv qs) (hb : Below w.heap.size w w') : AsW B w0 w' ab base wv ws lm n D qv qs where
  blk := (hb.block ab (Array.getElem?_eq_some_iff.1 h.blk).1).trans h.blk
  words := own_below h.words hb
  waits := own_below h.waits hb
  labels := by
    obtain ⟨es, clock, h1, h2, h3, h4⟩ := h.labels
    exact ⟨es, clock, (hb.block lm (Array.getElem?_eq_some_iff.1 h1).1).trans h1, h2, h3, h4⟩
  below := h.below.trans (hb.mono h.size)
  lo := h.lo
  lom := h.lom
  size := Nat.le_trans h.size hb.size
def hereZ (base : Int) (k : Nat) : Int := (base + 4 * ((k : Int) % 4294967296) % 4294967296) % 4294967296
set_option maxHeartbeats 1000000 in
theorem here_any {B : Nat} {w0 w : World} {ab : Nat} {base : Int} {wv : Value} {ws : List Int} {lm n : Nat} {D : DataW Unit} {qv : Value} {qs : List (Int × Int × List UInt8)} (h : AsW B w0 w ab base wv ws lm n D qv qs) :
    Calls Tryz.prog 81 #[.pointer (some ⟨ab, 0, none⟩)] w fun e w' => e = .returned (.int .u32 (hereZ base ws.length)) ∧ ∃ k, w' = w.drewN k := by
  obtain ⟨c0, c1, c2, c3, f1, f3⟩ := AB.cells h.blk
  obtain ⟨v', c', hv'⟩ : ∃ v' c', wv = .slice v' ws.length c' := by
    rcases Joins.ownsRow_forms h.words with ⟨rfl, hz⟩ | ⟨g, cap, rfl⟩
    · exact ⟨_, _, by rw [hz]⟩
    · exact ⟨_, _, rfl⟩
  subst hv'
  clear h
  go_enter Tryz.func81, Tryz.ntmps81
  go_wp2_with fail
  go_quiet (fail)
  go_wp2
  go_ret
  exact ⟨rfl, _, rfl⟩
theorem own_ne {w : World} {base : Nat} {e t : TypeId} {size : Nat} {v : Value} {n k : Nat} {xs : List Value} {cs : Array Value} {fr : Nat × Nat} (h : w.ownsRow base e size v n xs) (hk : w.heap[k]? = some (.cells cs t fr)) (hne : e ≠ t) : some k ≠ v.ownBlock := by
  intro hh
  rcases h.2 with ⟨h1, _⟩ | ⟨g, cap, cur, hv, _, hg, _⟩
  · rw [h1] at hh; cases hh
  · rw [hv] at hh
    simp only [Value.ownBlock, Option.some.injEq] at hh
    rw [hh, hg] at hk
    simp only [Option.some.injEq, Obj.cells.injEq] at hk
    exact hne hk.2.1
theorem own_block {w w' : World} {base : Nat} {e : TypeId} {size : Nat} {v : Value} {n : Nat} {xs : List Value} (h : w.ownsRow base e size v n xs) (hb : ∀ g, v.ownBlock = some g → w'.heap[g]? = w.heap[g]?) : w'.ownsRow base e size v n xs := by
  obtain ⟨hl, h | ⟨g, cap, cur, hv, hg, hh, r⟩⟩ := h
  · exact ⟨hl, .inl h⟩
  · exact ⟨hl, .inr ⟨g, cap, cur, hv, hg, (hb g (by rw [hv]; rfl)).trans hh, r⟩⟩
theorem own_map_ne {w : World} {base : Nat} {e : TypeId} {size : Nat} {v : Value} {n k : Nat} {xs : List Value} {es : Array MapEntry} {clock : Nat} (h : w.ownsRow base e size v n xs) (hk : w.heap[k]? = some (.map es clock)) : some k ≠ v.ownBlock := by
  intro hh
  rcases h.2 with ⟨h1, _⟩ | ⟨g, cap, cur, hv, _, hg, _⟩
  · rw [h1] at hh; cases hh
  · rw [hv] at hh
    simp only [Value.ownBlock, Option.some.injEq] at hh
    rw [hh, hg] at hk
    cases hk
theorem setCell_other (w : World) (b i k : Nat) (v : Value) (h : k ≠ b) : (w.setCell ⟨b, i, none⟩ v).heap[k]? = w.heap[k]? := Below.heap_setCell _ _ _ _ h
theorem map_block {w w' : World} {P : Program} {k : TypeId} {R : Value → Option (DataW Unit × List MemPlace)} {b n : Nat} {D : DataW Unit} (h : w.ownsMap P k R b n D) (hb : w'.heap[b]? = w.heap[b]?) : w'.ownsMap P k R b n D := by
  obtain ⟨es, clock, h1, r⟩ := h
  exact ⟨es, clock, hb.trans h1, r⟩
/-- A word is appended. -/
theorem AsW.word {B : Nat} {w0 w w4 : World} {ab : Nat} {base : Int} {wv wv' : Value} {ws : List Int} {x : Int} {lm n : Nat} {D : DataW Unit} {qv : Value} {qs : List (Int × Int × List UInt8)} (h : AsW B w0 w ab base wv ws lm n D qv qs)
    (hown : w4.ownsRow B 22 1 wv' (ws.length + 1) (ws.map (.int .u32) ++ [.int .u32 x])) (hg : w.grownBy w4 wv.ownBlock) : AsW B w0 (w4.setCell ⟨ab, 1, none⟩ wv') ab base wv' (ws ++ [x]) lm n D qv qs := by
  obtain ⟨es, clock, m1, m2, m3, m4⟩ := h.labels
  have hab : w4.heap[ab]? = _ := (hg.block ab (Array.getElem?_eq_some_iff.1 h.blk).1 (own_ne h.words h.blk (by decide))).trans h.blk
  have hlm : w4.heap[lm]? = _ := (hg.block lm (Array.getElem?_eq_some_iff.1 m1).1 (own_map_ne h.words m1)).trans m1
  have hne : lm ≠ ab := fun e => by rw [e, hab] at hlm; cases hlm
  have hq4 : w4.ownsRow B 97 3 qv qs.length (qs.flatMap waitC) := h.waits.kept hg (by
    rcases h.waits.2 with ⟨e, _⟩ | ⟨g, cap, cur, e, _, hh, _⟩
    · exact Or.inl (by rw [e]; rfl)
    · refine Or.inr ?_
      rw [e]
      exact own_ne h.words hh (by decide))
  have hz : (w4.setCell ⟨ab, 1, none⟩ wv').heap.size = w4.heap.size := by simp
  have ownT : ∀ {e : TypeId} {size n : Nat} {v : Value} {xs : List Value}, w4.ownsRow B e size v n xs → e ≠ 91 → (w4.setCell ⟨ab, 1, none⟩ wv').ownsRow B e size v n xs := fun {e size n v xs} h hne =>
    own_block h fun g hg2 => setCell_other w4 ab 1 g wv' (fun e2 => own_ne h hab hne (by rw [hg2, e2]))
  refine ⟨Joins.block_setCell (i := 1) hab wv', ?_, ownT hq4 (by decide), ⟨es, clock, (setCell_other w4 ab 1 lm wv' hne).trans hlm, m2, m3, m4⟩, (h.below.grown hg h.size (fun k hk => (h.words.lt k hk).1)).setCell h.lo _, h.lo, h.lom, by rw [hz]; exact Nat.le_trans h.size hg.size⟩
  have := ownT hown (by decide)
  rw [List.length_append, List.map_append]
  exact this
/-- A branch that waits is appended. -/
theorem AsW.wait {B : Nat} {w0 w w4 : World} {ab : Nat} {base : Int} {wv qv' : Value} {ws : List Int} {lm n : Nat} {D : DataW Unit} {qv : Value} {qs : List (Int × Int × List UInt8)} {q : Int × Int × List UInt8} (h : AsW B w0 w ab base wv ws lm n D qv qs)
    (hown : w4.ownsRow B 97 3 qv' (qs.length + 1) (qs.flatMap waitC ++ waitC q)) (hg : w.grownBy w4 qv.ownBlock) : AsW B w0 (w4.setCell ⟨ab, 3, none⟩ qv') ab base wv ws lm n D qv' (qs ++ [q]) := by
  obtain ⟨es, clock, m1, m2, m3, m4⟩ := h.labels
  have hab : w4.heap[ab]? = _ := (hg.block ab (Array.getElem?_eq_some_iff.1 h.blk).1 (own_ne h.waits h.blk (by decide))).trans h.blk
  have hlm : w4.heap[lm]? = _ := (hg.block lm (Array.getElem?_eq_some_iff.1 m1).1 (own_map_ne h.waits m1)).trans m1
  have hne : lm ≠ ab := fun e => by rw [e, hab] at hlm; cases hlm
  have hw4 : w4.ownsRow B 22 1 wv ws.length (ws.map (.int .u32)) := h.words.kept hg (by
    rcases h.words.2 with ⟨e, _⟩ | ⟨g, cap, cur, e, _, hh, _⟩
    · exact Or.inl (by rw [e]; rfl)
    · refine Or.inr ?_
      rw [e]
      exact own_ne h.waits hh (by decide))
  have hz : (w4.setCell ⟨ab, 3, none⟩ qv').heap.size = w4.heap.size := by simp
  have ownT : ∀ {e : TypeId} {size n : Nat} {v : Value} {xs : List Value}, w4.ownsRow B e size v n xs → e ≠ 91 → (w4.setCell ⟨ab, 3, none⟩ qv').ownsRow B e size v n xs := fun {e size n v xs} h hne =>
    own_block h fun g hg2 => setCell_other w4 ab 3 g qv' (fun e2 => own_ne h hab hne (by rw [hg2, e2]))
  refine ⟨Joins.block_setCell (i := 3) hab qv', ownT hw4 (by decide), ?_, ⟨es, clock, (setCell_other w4 ab 3 lm qv' hne).trans hlm, m2, m3, m4⟩, (h.below.grown hg h.size (fun k hk => (h.waits.lt k hk).1)).setCell h.lo _, h.lo, h.lom, by rw [hz]; exact Nat.le_trans h.size hg.size⟩
  have := ownT hown (by decide)
  rw [List.length_append, List.flatMap_append]
  simpa using this
/-- A label is laid. -/
theorem AsW.label {B : Nat} {w0 w w4 : World} {ab : Nat} {base : Int} {wv : Value} {ws : List Int} {lm n : Nat} {D D' : DataW Unit} {qv : Value} {qs : List (Int × Int × List UInt8)} (h : AsW B w0 w ab base wv ws lm n D qv qs)
    (hown : w4.ownsMap Tryz.prog 9 (plainElem Tryz.prog 22) lm (n + 1) D') (hg : w.grownBy w4 (some lm)) : AsW B w0 w4 ab base wv ws lm (n + 1) D' qv qs := by
  obtain ⟨es, clock, m1, m2, m3, m4⟩ := h.labels
  have hne : lm ≠ ab := fun e => by rw [e, h.blk] at m1; cases m1
  refine ⟨(hg.block ab (Array.getElem?_eq_some_iff.1 h.blk).1 (fun e => hne (Option.some.inj e).symm)).trans h.blk, h.words.kept hg ?_, h.waits.kept hg ?_, hown, h.below.grown hg h.size (fun k hk => by cases hk; exact h.lom), h.lo, h.lom, Nat.le_trans h.size hg.size⟩
  · by_cases hv : wv.ownBlock = none
    · exact Or.inl hv
    · exact Or.inr (fun e => own_map_ne h.words m1 e.symm)
  · by_cases hv : qv.ownBlock = none
    · exact Or.inl hv
    · exact Or.inr (fun e => own_map_ne h.waits m1 e.symm)
end Go.Proofs.YtnppegldebocmaaGreatDoor
namespace Go.Proofs.YtnppegldebocmaaGreatDoor
open Go.RowKit Go.Maps
set_option linter.unusedVariables false
theorem key_of (nm : List UInt8) (h : nm.length ≤ 100) : keyOf Tryz.prog 9 (.string (bsl nm)) = some (.string nm) := by
  have := Go.WideMaps.keyOf_string_mk (P := Tryz.prog) Tryz.underlying9 (s := bsl nm) (by rw [bsl_size]; unfold maxLen; omega)
  rw [this, bsl_data]
theorem here_wf (base : Int) (k : Nat) : (Lit.int .u32 (hereZ base k)).wf = true := by
  have h : 0 ≤ hereZ base k ∧ hereZ base k < 4294967296 := by unfold hereZ; omega
  have h1 : IntKind.u32.min = 0 := rfl
  have h2 : IntKind.u32.max = 4294967295 := rfl
  simp [Lit.wf, h1, h2]
  omega
theorem suffix_any (s : List UInt8) (hl : s.length ≤ 100) (w : World) : Calls Tryz.prog 79 #[.string (bsl s), .string ⟨#[58]⟩] w fun e w' => e = .returned (.tuple #[.string (bsl (Lib.trimSuffix s [58])), .bool (Lib.hasSuffix s [58])]) ∧ w = w' := by
  refine (Tryz.strings_CutSuffix (bsl s) ⟨#[58]⟩ w (by rw [bsl_size]; omega)).mono ?_
  rintro e w' ⟨rfl, hw⟩
  rw [bsl_data]
  exact ⟨rfl, hw.symm⟩
set_option maxHeartbeats 2000000 in
set_option maxRecDepth 1000000 in
theorem line_label {B : Nat} {w0 w : World} {ab : Nat} {base : Int} {wv : Value} {ws : List Int} {lm n : Nat} {D : DataW Unit} {qv : Value} {qs : List (Int × Int × List UInt8)} (h : AsW B w0 w ab base wv ws lm n D qv qs)
    (ad : Nat → Addr) (mz : Int) (hP : PW w ad mz) (i : Int) (s nm : List UInt8) (hl : s.length ≤ 100) (hs : Lib.hasSuffix s [58] = true) (hnm : Lib.trimSuffix s [58] = nm) (hnl : nm.length ≤ 100) (hlab : labelB nm = true) (hnew : Maps.has D (.string nm) = false) (hn : n < 1000) :
    Calls Tryz.prog 48 #[.pointer (some ⟨ab, 0, none⟩), .int .i64 i, .string (bsl s)] w fun e w' => e = .returned .nilIface ∧ AsW B w0 w' ab base wv ws lm (n + 1) (D.put (.string nm) (.lit (.int .u32 (hereZ base ws.length)))) qv qs := by
  have HS := Lib.hid (suffix_any s hl w)
  rw [hs, hnm] at HS
  have HLA := Lib.hid (label_any nm hnl w)
  rw [hlab] at HLA
  have HA := Lib.hid h
  have HNEW := Lib.hid hnew
  have hkey := key_of nm hnl
  have HK := Lib.hid hkey
  clear h hs hnm hlab hkey hP
  go_enter Tryz.func48, Tryz.ntmps48
  go_wp2_with fail
  refine HS.out.mono ?_
  rintro e w1 ⟨rfl, rfl⟩
  go_wp2_with fail
  refine HLA.out.mono ?_
  rintro e w2 ⟨rfl, hb2⟩
  have HA2 := Lib.hid (HA.out.trans hb2)
  clear hb2 HA
  obtain ⟨c0, c1, c2, c3, f1, f3⟩ := AB.cells HA2.out.blk
  have hown := HA2.out.labels
  go_wp2_with (first
    | (at_lookup; refine wpList_lookup_own_ok_int _ rfl _ _ 88 rfl 9 22 .u32 mapLaw Tryz.underlying88 Tryz.underlying22 (zeroE32 _) lm n D rfl hown _ _ rfl HK.out ?_; intro c hat hwc))
  have hup : ∀ k : Nat, ∃ W' : World, (Instr.mapUpdate 88 (.map (some lm)) (.string (bsl nm)) (.int .u32 (hereZ base ws.length))).run Tryz.prog (w2.drewN k) = .ok () W' ∧ AsW B w0 W' ab base wv ws lm (n + 1) (D.put (.string nm) (.lit (.int .u32 (hereZ base ws.length)))) qv qs := fun k => by
    have hA := HA2.out.trans (bdrewN (Below.refl w2.heap.size w2) k)
    obtain ⟨W', h1, h2, h3⟩ := hA.labels.update mapLaw Tryz.underlying88 (by unfold maxLen; omega) HK.out (plainElem_int Tryz.underlying22 (here_wf base ws.length))
    exact ⟨W', h1, hA.label h2 h3⟩
  obtain ⟨Wu, hWu⟩ := Classical.skolem.1 hup
  have hrun := fun k => (hWu k).1
  have HWA := Lib.hid (fun k => (hWu k).2)
  have HH := Lib.hid (here_any (HA2.out.trans (Below.refl w2.heap.size w2).drew))
  clear hup hWu
  go_upto_region 8 with fail
  go_region_with (go_at_call 81; refine HH.out.mono ?_; rintro e w3 ⟨rfl, k, rfl⟩)
  all_goals
    go_wp2
    go_ret
    exact ⟨rfl, HWA.out _⟩
end Go.Proofs.YtnppegldebocmaaGreatDoor
namespace Go.Proofs.YtnppegldebocmaaGreatDoor
open Go.RowKit Go.Maps
set_option linter.unusedVariables false
theorem Tryz.infoU : (Tryz.prog.info? 22).map (fun i => (i.zero, i.size, i.bytes)) = some (some (.int .u32 0), 1, 4) := by kernel_rfl
theorem prefix_any (s : List UInt8) (w : World) : Calls Tryz.prog 82 #[.string (bsl s), .string ⟨#[46, 119, 111, 114, 100]⟩] w fun e w' => e = .returned (.tuple #[.string (bsl (Lib.trimPrefix s [46, 119, 111, 114, 100])), .bool (Lib.hasPrefix s [46, 119, 111, 114, 100])]) ∧ w = w' := by
  refine (Tryz.strings_CutPrefix (bsl s) ⟨#[46, 119, 111, 114, 100]⟩ w).mono ?_
  rintro e w' ⟨rfl, hw⟩
  rw [bsl_data]
  exact ⟨rfl, hw.symm⟩
theorem trimSp_any (s : List UInt8) (w : World) : Calls Tryz.prog 84 #[.string (bsl s), .string ⟨#[32]⟩] w fun e w' => e = .returned (.string (bsl (Lib.trimPrefix s [32]))) ∧ w = w' := by
  refine (Tryz.strings_TrimPrefix (bsl s) ⟨#[32]⟩ w).mono ?_
  rintro e w' ⟨rfl, hw⟩
  rw [bsl_data]
  exact ⟨rfl, hw.symm⟩
theorem hasSp_any (s : List UInt8) (w : World) : Calls Tryz.prog 85 #[.string (bsl s), .string ⟨#[32]⟩] w fun e w' => e = .returned (.bool (Lib.hasPrefix s [32])) ∧ w = w' := by
  refine (Tryz.strings_HasPrefix (bsl s) ⟨#[32]⟩ w).mono ?_
  rintro e w' ⟨rfl, hw⟩
  rw [bsl_data]
  exact ⟨rfl, hw.symm⟩
set_option maxHeartbeats 2000000 in
set_option maxRecDepth 1000000 in
theorem line_word {B : Nat} {w0 w : World} {ab : Nat} {base : Int} {wv : Value} {ws : List Int} {lm n : Nat} {D : DataW Unit} {qv : Value} {qs : List (Int × Int × List UInt8)} (h : AsW B w0 w ab base wv ws lm n D qv qs)
    (ad : Nat → Addr) (mz : Int) (hP : PW w ad mz) (i : Int) (s d : List UInt8) (u : Nat) (hl : s.length ≤ 100) (hs : Lib.hasSuffix s [58] = false) (hp : Lib.hasPrefix s [46, 119, 111, 114, 100] = true) (hd : Lib.trimPrefix s [46, 119, 111, 114, 100] = d) (hdl : (Lib.trimPrefix d [32]).length ≤ 100) (hsp : Lib.hasPrefix d [32] = true) (hw : wordB (Lib.trimPrefix d [32]) = some u) (hwl : ws.length < 1000) :
    Calls Tryz.prog 48 #[.pointer (some ⟨ab, 0, none⟩), .int .i64 i, .string (bsl s)] w fun e w' => e = .returned .nilIface ∧ ∃ wv', AsW B w0 w' ab base wv' (ws ++ [(u : Int)]) lm n D qv qs := by
  have HS := Lib.hid (suffix_any s hl w)
  rw [hs] at HS
  have HPF := Lib.hid (prefix_any s w)
  rw [hp, hd] at HPF
  have HTS := Lib.hid (trimSp_any d w)
  have HWD := Lib.hid (word_asm (Lib.trimPrefix d [32]) hdl ad mz w hP)
  have HSP := Lib.hid (fun W => hasSp_any d W)
  rw [hsp] at HSP
  have HWU := Lib.hid hw
  have HA := Lib.hid h
  have HWL := Lib.hid hwl
  obtain ⟨iU, hU1, hU2, hU3, hU4⟩ := info_parts Tryz.infoU
  clear h hs hp hd hw hsp hP hdl
  generalize Lib.trimPrefix d [32] = d2 at *
  generalize Lib.trimSuffix s [58] = ts at *
  go_enter Tryz.func48, Tryz.ntmps48
  go_wp2_with fail
  refine HS.out.mono ?_
  rintro e w1 ⟨rfl, rfl⟩
  go_wp2_with fail
  refine HPF.out.mono ?_
  rintro e w1 ⟨rfl, rfl⟩
  go_wp2_with fail
  refine HTS.out.mono ?_
  rintro e w1 ⟨rfl, rfl⟩
  go_wp2_with fail
  refine HWD.out.mono ?_
  rintro e w2 ⟨hb2, ⟨u', hu', rfl⟩ | ⟨hn, _⟩⟩
  case inr => rw [HWU.out] at hn; cases hn
  have hue : u' = u := by rw [HWU.out] at hu'; exact (Option.some.inj hu').symm
  subst hue
  have HA2 := Lib.hid (HA.out.trans hb2)
  clear hb2 HA hu'
  go_wp2_with fail
  refine (HSP.out _).mono ?_
  rintro e w3 ⟨rfl, rfl⟩
  obtain ⟨c0, c1, c2, c3, f1, f3⟩ := AB.cells HA2.out.blk
  have hsize := HA2.out.size
  have hwl := HWL.out
  go_wp2_with (at_builtin; refine wpList_append_lies _ rfl (.tmp 69) (.tmp 71) 39 rfl B 22 iU (.int .u32 0) 1 4 Tryz.underlying39 hU1 hU2 hU3 hU4 rfl (by decide) _ _ _ rfl (HA2.out.words.alloc _) _ 1 1 [_] rfl rfl (cell_one_new _ _ _) (fun x hx => by simp at hx; subst hx; rfl) (by decide) (by unfold maxLen; omega) (by omega) (by simp; omega) _ rfl ?_)
  intro g0 cap0 w4 hown4 hgrow4 hat4 hlt4
  have hgr : w2.grownBy w4 wv.ownBlock := (World.grownBy_alloc w2 _ _).trans hgrow4
  have hA4 := HA2.out.word hown4 hgr
  have HA4 := Lib.hid hA4
  have hab4 : AB w4 ab base wv lm qv := (hgr.block ab (Array.getElem?_eq_some_iff.1 HA2.out.blk).1 (own_ne HA2.out.words HA2.out.blk (by decide))).trans HA2.out.blk
  clear hown4 hgrow4 hat4 hlt4 hgr hA4
  obtain ⟨a0, a1, a2, a3, b1, b3⟩ := AB.cells hab4
  clear c0 c1 c2 c3 f1 f3 hab4
  go_wp2_with fail
  go_ret
  exact ⟨rfl, _, HA4.out⟩
set_option maxHeartbeats 2000000 in
set_option maxRecDepth 1000000 in
theorem line_ins {B : Nat} {w0 w : World} {ab : Nat} {base : Int} {wv : Value} {ws : List Int} {lm n : Nat} {D : DataW Unit} {qv : Value} {qs : List (Int × Int × List UInt8)} (h : AsW B w0 w ab base wv ws lm n D qv qs)
    (ad : Nat → Addr) (mz : Int) (hP : PW w ad mz) (i : Int) (s : List UInt8) (x : InsN) (hl : s.length ≤ 100) (hs : Lib.hasSuffix s [58] = false) (hp : Lib.hasPrefix s [46, 119, 111, 114, 100] = false) (hlb : labelledB s = none) (hx : parseB s = (x, 0)) (hwl : ws.length < 1000) :
    Calls Tryz.prog 48 #[.pointer (some ⟨ab, 0, none⟩), .int .i64 i, .string (bsl s)] w fun e w' => e = .returned .nilIface ∧ ∃ wv', AsW B w0 w' ab base wv' (ws ++ [encL x (fieldsB x.op.toNat)]) lm n D qv qs := by
  have HS := Lib.hid (suffix_any s hl w)
  rw [hs] at HS
  have HPF := Lib.hid (prefix_any s w)
  rw [hp] at HPF
  have HLB := Lib.hid (labelled_any s hl ad mz w hP)
  have HLN := Lib.hid hlb
  have HPA := Lib.hid (fun W (hW : PW W ad mz) => parse_any s hl ad mz W hW)
  rw [hx] at HPA
  obtain ⟨hg, hf, _⟩ := text_parse s x hx
  have HEN := Lib.hid (fun W (hW : Two W ad) => word_yes x hf hg ad W hW)
  have HP := Lib.hid hP
  have HA := Lib.hid h
  have HWL := Lib.hid hwl
  obtain ⟨iU, hU1, hU2, hU3, hU4⟩ := info_parts Tryz.infoU
  clear h hs hp hlb hx hP hg hf
  generalize Lib.trimPrefix s [46, 119, 111, 114, 100] = d at *
  generalize Lib.trimSuffix s [58] = ts at *
  generalize encL x (fieldsB x.op.toNat) = xv at *
  go_enter Tryz.func48, Tryz.ntmps48
  go_wp2_with fail
  refine HS.out.mono ?_
  rintro e w1 ⟨rfl, rfl⟩
  go_wp2_with fail
  refine HPF.out.mono ?_
  rintro e w1 ⟨rfl, rfl⟩
  go_wp2_with fail
  refine HLB.out.mono ?_
  rintro e w2 ⟨hb2, ⟨_, rfl⟩ | ⟨l, y, hly, _⟩⟩
  case inr => rw [HLN.out] at hly; cases hly
  have HA2 := Lib.hid (HA.out.trans hb2)
  have HP2 := Lib.hid (HP.out.below hb2)
  clear hb2 HA HP HLB
  unfold notLab
  go_wp2_with fail
  refine (HPA.out _ HP2.out).mono ?_
  rintro e w3 ⟨rfl, hb3⟩
  have HA3 := Lib.hid (HA2.out.trans hb3)
  have HP3 := Lib.hid (HP2.out.below hb3)
  clear hb3 HA2 HP2 HPA
  rw [errV_0]
  have hF := Five.new w3 (.int .i64 x.op) (.int .i64 x.s) (.int .i64 x.t) (.int .i64 x.d) (.int .u32 x.imm) 24
  have hal := (Below.refl w3.heap.size w3).alloc (Nat.le_refl _) (.cells #[.int .i64 x.op, .int .i64 x.s, .int .i64 x.t, .int .i64 x.d, .int .u32 x.imm] 24)
  have HA4 := Lib.hid (HA3.out.trans hal)
  have HP4 := Lib.hid (HP3.out.below hal)
  obtain ⟨d0, d1, d2, d3, d4⟩ := Five.cells hF
  clear hF hal HA3 HP3
  go_wp2_with fail
  generalize w3.alloc (.cells #[.int .i64 x.op, .int .i64 x.s, .int .i64 x.t, .int .i64 x.d, .int .u32 x.imm] 24) = w4 at *
  refine (HEN.out _ ⟨HP4.out.se.c1, HP4.out.se.c3⟩).mono ?_
  rintro e w5 ⟨rfl, hb5⟩
  have HA5 := Lib.hid (HA4.out.trans hb5)
  clear hb5 HA4 HP4 HEN d0 d1 d2 d3 d4
  obtain ⟨c0, c1, c2, c3, f1, f3⟩ := AB.cells HA5.out.blk
  have hsize := HA5.out.size
  have hwl := HWL.out
  go_wp2_with (at_builtin; refine wpList_append_lies _ rfl (.tmp 118) (.tmp 120) 39 rfl B 22 iU (.int .u32 0) 1 4 Tryz.underlying39 hU1 hU2 hU3 hU4 rfl (by decide) _ _ _ rfl (HA5.out.words.alloc _) _ 1 1 [_] rfl rfl (cell_one_new _ _ _) (fun x hx => by simp at hx; subst hx; rfl) (by decide) (by unfold maxLen; omega) (by omega) (by simp; omega) _ rfl ?_)
  intro g0 cap0 w6 hown4 hgrow4 hat4 hlt4
  have hgr : w5.grownBy w6 wv.ownBlock := (World.grownBy_alloc w5 _ _).trans hgrow4
  have hA4 := HA5.out.word hown4 hgr
  have HA6 := Lib.hid hA4
  have hab4 : AB w6 ab base wv lm qv := (hgr.block ab (Array.getElem?_eq_some_iff.1 HA5.out.blk).1 (own_ne HA5.out.words HA5.out.blk (by decide))).trans HA5.out.blk
  clear hown4 hgrow4 hat4 hlt4 hgr hA4
  obtain ⟨a0, a1, a2, a3, b1, b3⟩ := AB.cells hab4
  clear c0 c1 c2 c3 f1 f3 hab4
  go_wp2_with fail
  go_ret
  exact ⟨rfl, _, HA6.out⟩
end Go.Proofs.YtnppegldebocmaaGreatDoor
namespace Go.Proofs.YtnppegldebocmaaGreatDoor
open Go.RowKit Go.Maps
set_option linter.unusedVariables false
/-- What a line that is well makes of words and labels (branches to labels aside). -/
def stepB (base : Int) (st : List Int × DataW Unit) (s : List UInt8) : Option (List Int × DataW Unit) :=
  if Lib.hasSuffix s [58] = true then
    if labelB (Lib.trimSuffix s [58]) = true ∧ Maps.has st.2 (.string (Lib.trimSuffix s [58])) = false then some (st.1, st.2.put (.string (Lib.trimSuffix s [58])) (.lit (.int .u32 (hereZ base st.1.length)))) else none
  else if Lib.hasPrefix s [46, 119, 111, 114, 100] = true then
    if Lib.hasPrefix (Lib.trimPrefix s [46, 119, 111, 114, 100]) [32] = true then
      match wordB (Lib.trimPrefix (Lib.trimPrefix s [46, 119, 111, 114, 100]) [32]) with
      | some u => some (st.1 ++ [(u : Int)], st.2)
      | none => none
    else none
  else if labelledB s = none ∧ (parseB s).2 = 0 then some (st.1 ++ [encL (parseB s).1 (fieldsB (parseB s).1.op.toNat)], st.2) else none
theorem trimPre_len (s p : List UInt8) : (Lib.trimPrefix s p).length ≤ s.length := by
  unfold Lib.trimPrefix
  split
  · rw [List.length_drop]; omega
  · exact Nat.le_refl _
theorem trimSuf_len (s p : List UInt8) : (Lib.trimSuffix s p).length ≤ s.length := by
  unfold Lib.trimSuffix
  split
  · rw [List.length_take]; omega
  · exact Nat.le_refl _
theorem line_good {B : Nat} {w0 w : World} {ab : Nat} {base : Int} {wv : Value} {lm n : Nat} {qv : Value} {qs : List (Int × Int × List UInt8)} (st st' : List Int × DataW Unit) (h : AsW B w0 w ab base wv st.1 lm n st.2 qv qs)
    (ad : Nat → Addr) (mz : Int) (hP : PW w ad mz) (i : Int) (s : List UInt8) (hl : s.length ≤ 100) (hn : n < 1000) (hw : st.1.length < 1000) (hst : stepB base st s = some st') :
    Calls Tryz.prog 48 #[.pointer (some ⟨ab, 0, none⟩), .int .i64 i, .string (bsl s)] w fun e w' => e = .returned .nilIface ∧ ∃ wv' n', n' ≤ n + 1 ∧ AsW B w0 w' ab base wv' st'.1 lm n' st'.2 qv qs := by
  obtain ⟨ws, D⟩ := st
  unfold stepB at hst
  by_cases hs : Lib.hasSuffix s [58] = true
  · rw [if_pos hs] at hst
    split at hst
    · next hc =>
      cases hst
      refine (line_label h ad mz hP i s _ hl hs rfl (Nat.le_trans (trimSuf_len s _) hl) hc.1 hc.2 hn).mono ?_
      rintro e w' ⟨rfl, hA⟩
      exact ⟨rfl, wv, n + 1, Nat.le_refl _, hA⟩
    · cases hst
  · have hsf : Lib.hasSuffix s [58] = false := by simpa using hs
    rw [if_neg hs] at hst
    by_cases hp : Lib.hasPrefix s [46, 119, 111, 114, 100] = true
    · rw [if_pos hp] at hst
      split at hst
      · next hsp =>
        split at hst
        · next u hu =>
          cases hst
          refine (line_word h ad mz hP i s _ u hl hsf hp rfl (Nat.le_trans (trimPre_len _ _) (Nat.le_trans (trimPre_len s _) hl)) hsp hu hw).mono ?_
          rintro e w' ⟨rfl, wv', hA⟩
          exact ⟨rfl, wv', n, Nat.le_succ n, hA⟩
        · cases hst
      · cases hst
    · have hpf : Lib.hasPrefix s [46, 119, 111, 114, 100] = false := by simpa using hp
      rw [if_neg hp] at hst
      split at hst
      · next hc =>
        cases hst
        refine (line_ins h ad mz hP i s (parseB s).1 hl hsf hpf hc.1 (by rw [← hc.2]) hw).mono ?_
        rintro e w' ⟨rfl, wv', hA⟩
        exact ⟨rfl, wv', n, Nat.le_succ n, hA⟩
      · cases hst
def goodAll (base : Int) : List (List UInt8) → List Int × DataW Unit → Option (List Int × DataW Unit)
  | [], st => some st
  | s :: L, st => match stepB base st s with
    | none => none
    | some st' => goodAll base L st'
theorem goodAll_cons {base : Int} {s : List UInt8} {L : List (List UInt8)} {st r : List Int × DataW Unit} (h : goodAll base (s :: L) st = some r) : ∃ st', stepB base st s = some st' ∧ goodAll base L st' = some r := by
  unfold goodAll at h
  split at h
  · cases h
  · next st' h1 => exact ⟨st', h1, h⟩
theorem step_len {base : Int} {st st' : List Int × DataW Unit} {s : List UInt8} (h : stepB base st s = some st') : st'.1.length ≤ st.1.length + 1 := by
  unfold stepB at h
  repeat' split at h
  all_goals first | (cases h; simp) | cases h
end Go.Proofs.YtnppegldebocmaaGreatDoor
namespace Go.Proofs.YtnppegldebocmaaGreatDoor
open Go.RowKit Go.Maps
set_option linter.unusedVariables false
set_option maxHeartbeats 2000000 in
set_option maxRecDepth 1000000 in
theorem assemble_good (L : List (List UInt8)) (hL : L.length ≤ 200) (hlen : ∀ s ∈ L, s.length ≤ 100) (base : Int) (hb0 : 0 ≤ base) (hb4 : base % 4 = 0) (r : List Int × DataW Unit) (hg : goodAll base L ([], .map []) = some r)
    (ad : Nat → Addr) (mz : Int) (w : World) (hP : PW w ad mz) (B0 : Nat) (v : Value) (hv : w.ownsRow B0 9 1 v L.length (L.map fun s => .string (bsl s))) :
    Calls Tryz.prog 16 #[v, .int .u32 base] w fun e w' => ∃ wv, e = .returned (.tuple #[wv, .nilIface]) ∧ w'.ownsRow w.heap.size 22 1 wv r.1.length (r.1.map (.int .u32)) ∧ Below w.heap.size w w' := by
  obtain ⟨v', c', hv'⟩ : ∃ v' c', v = .slice v' L.length c' := by
    rcases Joins.ownsRow_forms hv with ⟨rfl, hz⟩ | ⟨g, cap, rfl⟩
    · exact ⟨_, _, by rw [hz]⟩
    · exact ⟨_, _, rfl⟩
  subst hv'
  have HV := Lib.hid hv
  have HP := Lib.hid hP
  have HLEN := Lib.hid hlen
  have HG := Lib.hid hg
  have hmm := @run_makeMap Tryz.prog
  have hbt : base.tmod 4 = 0 := by rw [Int.tmod_eq_emod_of_nonneg hb0]; exact hb4
  have hlz : ¬ (200 : Int) < (L.length : Int) := by omega
  clear hv hP hlen hg
  go_enter Tryz.func16, Tryz.ntmps16
  go_wp2_with fail
  have hA0 : AsW w.heap.size w ((w.alloc (.map #[] 0)).alloc (.cells #[.int .u32 base, .slice none 0 0, .map (some w.heap.size), .slice none 0 0] 91)) (w.heap.size + 1) base (.slice none 0 0) [] w.heap.size 0 (.map []) (.slice none 0 0) [] := by
    have hz : (w.alloc (.map #[] 0)).heap.size = w.heap.size + 1 := by simp
    refine ⟨?_, World.ownsRow_nil _ _ _ _, World.ownsRow_nil _ _ _ _, (World.ownsMap_made w _ _ _).alloc _, ((Below.refl _ _).alloc (Nat.le_refl _) _).alloc (by simp) _, Nat.le_succ _, Nat.le_refl _, by simp; omega⟩
    have := heap_alloc_new (w.alloc (.map #[] 0)) (.cells #[.int .u32 base, .slice none 0 0, .map (some w.heap.size), .slice none 0 0] 91)
    rw [hz] at this
    exact this
  have HA0 := Lib.hid hA0
  clear hA0 hmm hbt
  generalize (w.alloc (.map #[] 0)).alloc (.cells #[.int .u32 base, .slice none 0 0, .map (some w.heap.size), .slice none 0 0] 91) = w2 at *
  go_loopw [29] (fun kv wr => ∃ (j : Nat) (st : List Int × DataW Unit) (wv : Value) (n : Nat), j ≤ L.length ∧ n ≤ j ∧ st.1.length ≤ j ∧ kv = .int .i64 (j : Int) ∧ Hid (goodAll base (L.drop j) st = some r) ∧ Hid (AsW w.heap.size w wr (w.heap.size + 1) base wv st.1 w.heap.size n st.2 (.slice none 0 0) [])) (fun kv _ => L.length - (intOf kv).toNat)
  case atStart => exact ⟨0, ([], .map []), _, 0, Nat.zero_le _, Nat.le_refl _, Nat.le_refl _, rfl, HG, HA0⟩
  case round =>
    obtain ⟨j, st, wv, n, hj, hnj, hsj, rfl, HGJ, HAJ⟩ := hrel
    by_cases hlt : j < L.length
    · obtain ⟨g, cap, hvf⟩ := Joins.ownsRow_form HV.out (by go_light; omega)
      have hcell : w.cell? ⟨g, j, none⟩ = some (.string (bsl L[j])) := by
        have := HV.out.cells (show (Value.slice v' L.length c').ownBlock = some g by rw [hvf]; rfl) j (.string (bsl L[j])) (by rw [List.getElem?_map, List.getElem?_eq_getElem hlt]; rfl)
        have ha : (⟨g, 0, none⟩ : Addr).add j = ⟨g, j, none⟩ := by
          unfold Addr.add
          cases j <;> simp
        rw [ha] at this
        exact this
      have hgl : g < w.heap.size := (HV.out.lt g (by rw [hvf]; rfl)).2
      simp only [Value.slice.injEq] at hvf
      obtain ⟨hv1, _, rfl⟩ := hvf
      subst hv1
      have hcr : wr.cell? ⟨g, j, none⟩ = some (.string (bsl L[j])) := (HAJ.out.below.cell (by exact hgl)).trans hcell
      have hd : L.drop j = L[j] :: L.drop (j + 1) := List.drop_eq_getElem_cons hlt
      have hgj := HGJ.out
      rw [hd] at hgj
      obtain ⟨st', h1, h2⟩ := goodAll_cons hgj
      have hsl : L[j].length ≤ 100 := HLEN.out _ (List.getElem_mem hlt)
      have HLI := Lib.hid (line_good st st' HAJ.out ad mz (HP.out.below HAJ.out.below) (j : Int) L[j] hsl (by go_light; omega) (by go_light; omega) h1)
      have HS2 := Lib.hid (step_len h1)
      have HG2 := Lib.hid h2
      have hjl : (j : Int) < (L.length : Int) := by go_light; omega
      generalize L[j] = sj at *
      clear hcell hd hgj h1 h2 hsl hgl
      go_wp2_with fail
      refine HLI.out.mono ?_
      rintro e w3 ⟨rfl, wv', n', hn', hA3⟩
      have HA3 := Lib.hid hA3
      clear hA3
      go_wp2_with fail
      go_roundw
      case rel => exact ⟨j + 1, st', wv', n', hlt, by go_light; omega, by have := HS2.out; go_light; omega, by go_num, HG2, HA3⟩
      case measure => go_light; simp [intOf]; omega
    · have hje : j = L.length := by go_light; omega
      subst hje
      have hgj := HGJ.out
      rw [List.drop_length] at hgj
      have hst : st = r := Option.some.inj hgj
      subst hst
      have HAJ2 := HAJ
      obtain ⟨c0, c1, c2, c3, f1, f3⟩ := AB.cells HAJ.out.blk
      clear hlt hgj
      go_wp2_with fail
      go_loopw [51] (fun kv wx => kv = .int .i64 0 ∧ wx = wr) (fun _ _ => 0)
      case atStart => exact ⟨rfl, rfl⟩
      case round =>
        obtain ⟨rfl, rfl⟩ := hrel
        go_wp2_with fail
        exact bodyPost_ret (v := .tuple #[wv, .nilIface]) (by simp [results, Tryz.results16, go_sem]) rfl ⟨wv, rfl, HAJ2.out.words, HAJ2.out.below⟩
end Go.Proofs.YtnppegldebocmaaGreatDoor
namespace Go.Proofs.YtnppegldebocmaaGreatDoor
open Go.RowKit Go.Maps
set_option linter.unusedVariables false
theorem Tryz.infoQ : (Tryz.prog.info? 97).map (fun i => (i.zero, i.size, i.bytes)) = some (some (.agg #[.int .i64 0, .int .i64 0, .string ByteArray.empty]), 3, 32) := by kernel_rfl
theorem three_news (w : World) (a b c : Value) (t : TypeId) : ∀ j v, [a, b, c][j]? = some v → (w.alloc (.cells #[a, b, c] t)).cell? ((⟨w.heap.size, 0, none⟩ : Addr).add j) = some v := by
  intro j u hj
  match j, hj with
  | 0, hj => simp at hj; subst hj; simp [Addr.add]
  | 1, hj => simp at hj; subst hj; simp [Addr.add]
  | 2, hj => simp at hj; subst hj; simp [Addr.add]
  | j + 3, hj => simp at hj
theorem waitC_one (q : Int × Int × List UInt8) : ∀ u ∈ waitC q, u.oneCell' = true := by
  intro u hu
  simp only [waitC, List.mem_cons, List.not_mem_nil, or_false] at hu
  rcases hu with rfl | rfl | rfl <;> rfl
theorem rest_wait {B : Nat} {w0 w w4 : World} {ab : Nat} {base : Int} {wv qv' : Value} {ws : List Int} {lm n : Nat} {D : DataW Unit} {qv : Value} {qs : List (Int × Int × List UInt8)} {q : Int × Int × List UInt8} {o : Obj} (h : AsW B w0 w ab base wv ws lm n D qv qs)
    (hown : w4.ownsRow B 97 3 qv' (qs.length + 1) (qs.flatMap waitC ++ waitC q)) (hg : (w.alloc o).grownBy w4 qv.ownBlock) :
    AsW B w0 (w4.setCell ⟨ab, 3, none⟩ qv') ab base wv ws lm n D qv' (qs ++ [q]) ∧ AB w4 ab base wv lm qv := by
  have hgr : w.grownBy w4 qv.ownBlock := (World.grownBy_alloc w _ _).trans hg
  exact ⟨h.wait hown hgr, (hgr.block ab (Array.getElem?_eq_some_iff.1 h.blk).1 (own_ne h.waits h.blk (by decide))).trans h.blk⟩
theorem AsW.drew {B : Nat} {w0 w : World} {ab : Nat} {base : Int} {wv : Value} {ws : List Int} {lm n : Nat} {D : DataW Unit} {qv : Value} {qs : List (Int × Int × List UInt8)} (h : AsW B w0 w ab base wv ws lm n D qv qs) : AsW B w0 w.drew ab base wv ws lm n D qv qs := h.trans (Below.refl _ _).drew
set_option maxHeartbeats 4000000 in
set_option maxRecDepth 1000000 in
theorem line_branch {w0 w : World} {ab : Nat} {base : Int} {wv : Value} {ws : List Int} {lm n : Nat} {D : DataW Unit} {qv : Value} {qs : List (Int × Int × List UInt8)} (h : AsW w0.heap.size w0 w ab base wv ws lm n D qv qs)
    (ad : Nat → Addr) (mz : Int) (hP0 : PW w0 ad mz) (i : Int) (s l y : List UInt8) (x : InsN) (hl : s.length ≤ 100) (hs : Lib.hasSuffix s [58] = false) (hp : Lib.hasPrefix s [46, 119, 111, 114, 100] = false) (hlb : labelledB s = some (l, y)) (hx : parseB l = (x, 0)) (hwl : ws.length < 1000) (hql : qs.length < 1000) :
    Calls Tryz.prog 48 #[.pointer (some ⟨ab, 0, none⟩), .int .i64 i, .string (bsl s)] w fun e w' => e = .returned .nilIface ∧ ∃ wv' qv', AsW w0.heap.size w0 w' ab base wv' (ws ++ [encL x (fieldsB x.op.toNat)]) lm n D qv' (qs ++ [(i, ((ws.length : Int), y))]) := by
  have HS := Lib.hid (suffix_any s hl w)
  rw [hs] at HS
  have HPF := Lib.hid (prefix_any s w)
  rw [hp] at HPF
  have hP : PW w ad mz := hP0.below h.below
  have HLB := Lib.hid (labelled_any s hl ad mz w hP)
  have HLN := Lib.hid hlb
  obtain ⟨ll, _, _⟩ := labelled_len hlb
  have HPA := Lib.hid (fun W (hW : PW W ad mz) => parse_any l (Nat.le_trans ll hl) ad mz W hW)
  rw [hx] at HPA
  obtain ⟨hg, hf, _⟩ := text_parse l x hx
  have HEN := Lib.hid (fun W (hW : Two W ad) => word_yes x hf hg ad W hW)
  have HP0 := Lib.hid hP0
  obtain ⟨v', c', hv'⟩ : ∃ v' c', wv = .slice v' ws.length c' := by
    rcases Joins.ownsRow_forms h.words with ⟨rfl, hz⟩ | ⟨g, cap, rfl⟩
    · exact ⟨_, _, by rw [hz]⟩
    · exact ⟨_, _, rfl⟩
  subst hv'
  have HA := Lib.hid h
  have HWL := Lib.hid hwl
  have HQL := Lib.hid hql
  obtain ⟨iU, hU1, hU2, hU3, hU4⟩ := info_parts Tryz.infoU
  obtain ⟨iQ, hQ1, hQ2, hQ3, hQ4⟩ := info_parts Tryz.infoQ
  clear h hs hp hlb hx hP hP0 hg hf ll hwl hql
  generalize Lib.trimPrefix s [46, 119, 111, 114, 100] = d at *
  generalize Lib.trimSuffix s [58] = ts at *
  generalize encL x (fieldsB x.op.toNat) = xv at *
  go_enter Tryz.func48, Tryz.ntmps48
  go_wp2_with fail
  refine HS.out.mono ?_
  rintro e w1 ⟨rfl, rfl⟩
  go_wp2_with fail
  refine HPF.out.mono ?_
  rintro e w1 ⟨rfl, rfl⟩
  go_wp2_with fail
  refine HLB.out.mono ?_
  rintro e w2 ⟨hb2, ⟨hno, _⟩ | ⟨l', y', hly, rfl⟩⟩
  · rw [HLN.out] at hno; cases hno
  have hly2 := hly
  rw [HLN.out] at hly2
  simp only [Option.some.injEq, Prod.mk.injEq] at hly2
  obtain ⟨rfl, rfl⟩ := hly2
  have HA2 := Lib.hid (HA.out.trans hb2)
  clear hb2 HA HLB hly
  obtain ⟨c0, c1, c2, c3, f1, f3⟩ := AB.cells HA2.out.blk
  have hsize := HA2.out.size
  have hql := HQL.out
  have hwl := HWL.out
  have HAL := HA2.out.trans ((Below.refl w2.heap.size w2).alloc (Nat.le_refl _) (.cells #[.int .i64 i, .int .i64 (ws.length : Int), .string (bsl y)] 97))
  obtain ⟨p0, p1, p2, p3, r1, r3⟩ := AB.cells HAL.blk
  clear HAL
  go_upto_region 19 with fail
  go_region_law (refine step_append_lies _ rfl (.tmp 87) (.tmp 96) 89 rfl w0.heap.size 97 iQ (.agg #[.int .i64 0, .int .i64 0, .string ByteArray.empty]) 3 32 Tryz.underlying89 hQ1 hQ2 hQ3 hQ4 rfl (by decide) _ qs.length (qs.flatMap waitC) rfl (HA2.out.waits.alloc _) _ 1 1 (waitC (i, ((ws.length : Int), y))) rfl rfl (three_news w2 _ _ _ _) (waitC_one _) (by decide) (by unfold maxLen; omega) (by omega) (by simp; omega) _ rfl ?_; intro g cap w6 hown6 hgrow6 hat6 hlt6; obtain ⟨hA6, hAB6⟩ := (by first | exact rest_wait HA2.out hown6 hgrow6 | exact rest_wait HA2.out.drew hown6 hgrow6 : AsW w0.heap.size w0 (w6.setCell ⟨ab, 3, none⟩ (.slice (some ⟨g, 0, none⟩) (qs.length + 1) cap)) ab base (.slice v' ws.length c') ws lm n D (.slice (some ⟨g, 0, none⟩) (qs.length + 1) cap) (qs ++ [(i, ((ws.length : Int), y))]) ∧ AB w6 ab base (.slice v' ws.length c') lm qv); have HA6 := Lib.hid hA6; obtain ⟨a0, a1, a2, a3, b1, b3⟩ := AB.cells hAB6; clear hA6 hAB6 hown6 hgrow6 hat6 hlt6)
  all_goals
    have HP6 := Lib.hid (HP0.out.below HA6.out.below)
    clear a0 a1 a2 a3 b1 b3 c0 c1 c2 c3 f1 f3 p0 p1 p2 p3 r1 r3 hsize
    generalize w6.setCell ⟨ab, 3, none⟩ (.slice (some ⟨g, 0, none⟩) (qs.length + 1) cap) = w7 at *
    go_wp2_with fail
    refine (HPA.out _ HP6.out).mono ?_
    rintro e w3 ⟨rfl, hb3⟩
    have HA3 := Lib.hid (HA6.out.trans hb3)
    clear hb3 HA6 HP6 HPA
    rw [errV_0]
    have hF := Five.new w3 (.int .i64 x.op) (.int .i64 x.s) (.int .i64 x.t) (.int .i64 x.d) (.int .u32 x.imm) 24
    have hal := (Below.refl w3.heap.size w3).alloc (Nat.le_refl _) (.cells #[.int .i64 x.op, .int .i64 x.s, .int .i64 x.t, .int .i64 x.d, .int .u32 x.imm] 24)
    have HA4 := Lib.hid (HA3.out.trans hal)
    have HP4 := Lib.hid (HP0.out.below HA4.out.below)
    obtain ⟨d0, d1, d2, d3, d4⟩ := Five.cells hF
    clear hF hal HA3
    go_wp2_with fail
    generalize w3.alloc (.cells #[.int .i64 x.op, .int .i64 x.s, .int .i64 x.t, .int .i64 x.d, .int .u32 x.imm] 24) = w4 at *
    refine (HEN.out _ ⟨HP4.out.se.c1, HP4.out.se.c3⟩).mono ?_
    rintro e w5 ⟨rfl, hb5⟩
    have HA5 := Lib.hid (HA4.out.trans hb5)
    clear hb5 HA4 HP4 HEN d0 d1 d2 d3 d4
    obtain ⟨c0, c1, c2, c3, f1, f3⟩ := AB.cells HA5.out.blk
    have hsize := HA5.out.size
    go_wp2_with (at_builtin; refine wpList_append_lies _ rfl (.tmp 118) (.tmp 120) 39 rfl w0.heap.size 22 iU (.int .u32 0) 1 4 Tryz.underlying39 hU1 hU2 hU3 hU4 rfl (by decide) _ _ _ rfl (HA5.out.words.alloc _) _ 1 1 [_] rfl rfl (cell_one_new _ _ _) (fun x hx => by simp at hx; subst hx; rfl) (by decide) (by unfold maxLen; omega) (by omega) (by simp; omega) _ rfl ?_)
    intro g0 cap0 w8 hown4 hgrow4 hat4 hlt4
    have hgr : w5.grownBy w8 (Value.slice v' ws.length c').ownBlock := (World.grownBy_alloc w5 _ _).trans hgrow4
    have hA4 := HA5.out.word hown4 hgr
    have HA8 := Lib.hid hA4
    have hab4 : AB w8 ab base (.slice v' ws.length c') lm _ := (hgr.block ab (Array.getElem?_eq_some_iff.1 HA5.out.blk).1 (own_ne HA5.out.words HA5.out.blk (by decide))).trans HA5.out.blk
    clear hown4 hgrow4 hat4 hlt4 hgr hA4
    obtain ⟨a0, a1, a2, a3, b1, b3⟩ := AB.cells hab4
    clear c0 c1 c2 c3 f1 f3 hab4
    go_wp2_with fail
    go_ret
    exact ⟨rfl, _, _, HA8.out⟩
end Go.Proofs.YtnppegldebocmaaGreatDoor
namespace Go.Proofs.YtnppegldebocmaaGreatDoor
open Go.RowKit Go.Maps
set_option linter.unusedVariables false
abbrev Waits := List (Int × Int × List UInt8)
/-- Words, labels, branches that wait. -/
abbrev StQ := (List Int × DataW Unit) × Waits
/-- What a line that is well makes of words, labels and branches that wait. -/
def stepQ (base : Int) (i : Int) (st : StQ) (s : List UInt8) : Option StQ :=
  if Lib.hasSuffix s [58] = false ∧ Lib.hasPrefix s [46, 119, 111, 114, 100] = false then
    match labelledB s with
    | some (l, y) => if (parseB l).2 = 0 then some ((st.1.1 ++ [encL (parseB l).1 (fieldsB (parseB l).1.op.toNat)], st.1.2), st.2 ++ [(i, (st.1.1.length : Int), y)]) else none
    | none => (stepB base st.1 s).map fun r => (r, st.2)
  else (stepB base st.1 s).map fun r => (r, st.2)
def goodQ (base : Int) : Int → List (List UInt8) → StQ → Option StQ
  | _, [], st => some st
  | i, s :: L, st => match stepQ base i st s with
    | none => none
    | some st' => goodQ base (i + 1) L st'
theorem goodQ_cons {base i : Int} {s : List UInt8} {L : List (List UInt8)} {st r : StQ} (h : goodQ base i (s :: L) st = some r) : ∃ st', stepQ base i st s = some st' ∧ goodQ base (i + 1) L st' = some r := by
  unfold goodQ at h
  split at h
  · cases h
  · next st' h1 => exact ⟨st', h1, h⟩
theorem goodQ_app {base : Int} : ∀ (L M : List (List UInt8)) (i : Int) (st st' : StQ), goodQ base i L st = some st' → goodQ base i (L ++ M) st = goodQ base (i + L.length) M st'
  | [], M, i, st, st', h => by
    simp only [goodQ, Option.some.injEq] at h
    subst h
    simp
  | s :: L, M, i, st, st', h => by
    obtain ⟨st1, h1, h2⟩ := goodQ_cons h
    rw [List.cons_append]
    show (match stepQ base i st s with | none => none | some st' => goodQ base (i + 1) (L ++ M) st') = _
    rw [h1]
    simp only
    rw [goodQ_app L M (i + 1) st1 st' h2, show i + 1 + (L.length : Int) = i + ((s :: L).length : Int) from by rw [List.length_cons]; omega]
theorem stepQ_len {base i : Int} {st st' : StQ} {s : List UInt8} (h : stepQ base i st s = some st') : st'.1.1.length ≤ st.1.1.length + 1 ∧ st'.2.length ≤ st.2.length + 1 := by
  have hB : ∀ o, (stepB base st.1 s).map (fun r => (r, st.2)) = some o → o.1.1.length ≤ st.1.1.length + 1 ∧ o.2.length ≤ st.2.length + 1 := by
    intro o ho
    cases hs : stepB base st.1 s with
    | none => rw [hs] at ho; cases ho
    | some r =>
      rw [hs] at ho
      cases ho
      exact ⟨step_len hs, Nat.le_succ _⟩
  unfold stepQ at h
  split at h
  · split at h
    · split at h
      · cases h; simp
      · cases h
    · exact hB _ h
  · exact hB _ h
theorem stepQ_of (base i : Int) (st : StQ) (s : List UInt8) (r : List Int × DataW Unit) (h : stepB base st.1 s = some r) (hn : Lib.hasSuffix s [58] = true ∨ Lib.hasPrefix s [46, 119, 111, 114, 100] = true ∨ labelledB s = none) : stepQ base i st s = some (r, st.2) := by
  unfold stepQ
  split
  · next hc =>
    rcases hn with e | e | e
    · rw [e] at hc; cases hc.1
    · rw [e] at hc; cases hc.2
    · rw [e, h]; rfl
  · rw [h]; rfl
theorem lineq_good {w0 w : World} {ab : Nat} {base : Int} {wv : Value} {lm n : Nat} {qv : Value} (st st' : StQ) (h : AsW w0.heap.size w0 w ab base wv st.1.1 lm n st.1.2 qv st.2)
    (ad : Nat → Addr) (mz : Int) (hP0 : PW w0 ad mz) (i : Int) (s : List UInt8) (hl : s.length ≤ 100) (hn : n < 1000) (hw : st.1.1.length < 1000) (hq : st.2.length < 1000) (hst : stepQ base i st s = some st') :
    Calls Tryz.prog 48 #[.pointer (some ⟨ab, 0, none⟩), .int .i64 i, .string (bsl s)] w fun e w' => e = .returned .nilIface ∧ ∃ wv' qv' n', n' ≤ n + 1 ∧ AsW w0.heap.size w0 w' ab base wv' st'.1.1 lm n' st'.1.2 qv' st'.2 := by
  have hP := hP0.below h.below
  have hB : ∀ o, (stepB base st.1 s).map (fun r => (r, st.2)) = some o → Calls Tryz.prog 48 #[.pointer (some ⟨ab, 0, none⟩), .int .i64 i, .string (bsl s)] w fun e w' => e = .returned .nilIface ∧ ∃ wv' qv' n', n' ≤ n + 1 ∧ AsW w0.heap.size w0 w' ab base wv' o.1.1 lm n' o.1.2 qv' o.2 := by
    intro o ho
    cases hs : stepB base st.1 s with
    | none => rw [hs] at ho; cases ho
    | some r =>
      rw [hs] at ho
      cases ho
      refine (line_good st.1 r h ad mz hP i s hl hn hw hs).mono ?_
      rintro e w' ⟨rfl, wv', n', hn', hA⟩
      exact ⟨rfl, wv', qv, n', hn', hA⟩
  unfold stepQ at hst
  split at hst
  · next hc =>
    split at hst
    · next l y hly =>
      split at hst
      · next h0 =>
        cases hst
        have hx : parseB l = ((parseB l).1, 0) := by rw [← h0]
        refine (line_branch h ad mz hP0 i s l y _ hl hc.1 hc.2 hly hx hw hq).mono ?_
        rintro e w' ⟨rfl, wv', qv', hA⟩
        exact ⟨rfl, wv', qv', n, Nat.le_succ n, hA⟩
      · cases hst
    · exact hB _ hst
  · exact hB _ hst
/-- A branch's instruction, once its label's place is known (far ones aside). -/
def brNew (base tz : Int) (k : Nat) (x : InsN) : Option InsN :=
  if fieldsB x.op.toNat = [106] then
    if bits .and .u32 tz 4026531840 = bits .and .u32 (((base + 4 * (k : Int)) % 4294967296 + 4) % 4294967296) 4026531840 then some { x with imm := bits .and .u32 (tz / 4) 67108863 } else none
  else if wrap64 ((wrap64 (wrap32 ((tz - ((base + 4 * (k : Int)) % 4294967296 + 4) % 4294967296) % 4294967296))).tdiv 4) < -32768 ∨ 32767 < wrap64 ((wrap64 (wrap32 ((tz - ((base + 4 * (k : Int)) % 4294967296 + 4) % 4294967296) % 4294967296))).tdiv 4) then none
  else some { x with imm := bits .and .u32 (wrap64 ((wrap64 (wrap32 ((tz - ((base + 4 * (k : Int)) % 4294967296 + 4) % 4294967296) % 4294967296))).tdiv 4) % 4294967296) 65535 }
/-- All branches that wait are settled. -/
inductive SettleS (base : Int) (D : DataW Unit) : Waits → List Int → List Int → Prop
  | nil (ws : List Int) : SettleS base D [] ws ws
  | cons (i : Int) (k : Nat) (y : List UInt8) (qs : Waits) (ws r : List Int) (tz z : Int) (x' : InsN) (hk : k < ws.length) (hy : y.length ≤ 100) (hh : Maps.has D (.string y) = true) (ht : D.atKey (.string y) (.lit (.int .u32 0)) = .lit (.int .u32 tz)) (ht0 : 0 ≤ tz) (ht1 : tz < 4294967296)
      (hz : ws[k] = z) (hz0 : 0 ≤ z) (hz1 : z < 4294967296) (hx : brNew base tz k (decZ z) = some x') (hf : x'.Fits) (hg : goodI x') (hr : SettleS base D qs (ws.set k (encL x' (fieldsB x'.op.toNat))) r) : SettleS base D ((i, (k : Int), y) :: qs) ws r
end Go.Proofs.YtnppegldebocmaaGreatDoor
namespace Go.Proofs.YtnppegldebocmaaGreatDoor
open Go.RowKit Go.Maps
set_option linter.unusedVariables false
/-- A label that is there, looked up in whatever world. -/
theorem AsW.look {B : Nat} {w0 w : World} {ab : Nat} {base : Int} {wv : Value} {ws : List Int} {lm n : Nat} {D : DataW Unit} {qv : Value} {qs : List (Int × Int × List UInt8)} (h : AsW B w0 w ab base wv ws lm n D qv qs)
    (y : List UInt8) (hy : y.length ≤ 100) (tz : Int) (hh : Maps.has D (.string y) = true) (ht : D.atKey (.string y) (.lit (.int .u32 0)) = .lit (.int .u32 tz)) :
    (Instr.lookup 88 (.map (some lm)) (.string (bsl y)) true).run Tryz.prog w = .ok (.tuple #[.int .u32 tz, .bool true]) w := by
  obtain ⟨es, clock, hb, F, _, hD⟩ := h.labels
  rcases Maps.fit_look true mapLaw Tryz.underlying88 (zeroE32 w) hb F (key_of y hy) with ⟨_, _, hat⟩ | ⟨e0, z, _, _, hrun, hRv, hat, _⟩
  · rw [← hD] at hat
    rw [Maps.has_false_of_atKey hat] at hh
    cases hh
  · rw [← hD] at hat
    rw [hat] at ht
    obtain ⟨c, hc, hcc, _⟩ := plainElem_int_inv Tryz.underlying22 hRv
    rw [hcc] at ht
    simp only [DataW.lit.injEq, Lit.int.injEq, true_and] at ht
    subst ht
    rw [hc] at hrun
    simpa using hrun
/-- A word is laid anew. -/
theorem AsW.put {B : Nat} {w0 w : World} {ab : Nat} {base : Int} {g cap : Nat} {ws : List Int} {lm n : Nat} {D : DataW Unit} {qv : Value} {qs : List (Int × Int × List UInt8)} (h : AsW B w0 w ab base (.slice (some ⟨g, 0, none⟩) ws.length cap) ws lm n D qv qs) (k : Nat) (x : Int) :
    AsW B w0 (w.setCell ⟨g, k, none⟩ (.int .u32 x)) ab base (.slice (some ⟨g, 0, none⟩) ws.length cap) (ws.set k x) lm n D qv qs := by
  obtain ⟨es, clock, m1, m2, m3, m4⟩ := h.labels
  obtain ⟨h1, h2⟩ := h.words.stored k (.int .u32 x)
  have hgab : some ab ≠ some g := own_ne h.words h.blk (by decide)
  have hglm : some lm ≠ some g := own_map_ne h.words m1
  refine ⟨(setCell_other w g k ab _ (fun e => hgab (by rw [e]))).trans h.blk, ?_, h.waits.kept h2 ?_, ⟨es, clock, (setCell_other w g k lm _ (fun e => hglm (by rw [e]))).trans m1, m2, m3, m4⟩, h.below.grown h2 h.size (fun k hk => (h.words.lt k hk).1), h.lo, h.lom, by simpa using h.size⟩
  · rw [List.length_set, List.map_set]; exact h1
  · rcases h.waits.2 with ⟨e, _⟩ | ⟨g', cap', cur, e, _, hh, _⟩
    · exact Or.inl (by rw [e]; rfl)
    · refine Or.inr ?_
      rw [e]
      exact own_ne h.words hh (by decide)
set_option maxHeartbeats 4000000 in
set_option maxRecDepth 1000000 in
theorem settle_any {w0 w : World} {ab : Nat} {base : Int} {wv : Value} {ws : List Int} {lm n : Nat} {D : DataW Unit} {qv : Value} {qs : List (Int × Int × List UInt8)} (h : AsW w0.heap.size w0 w ab base wv ws lm n D qv qs)
    (ad : Nat → Addr) (mz : Int) (hP0 : PW w0 ad mz) (line : Int) (k : Nat) (y : List UInt8) (hy : y.length ≤ 100) (tz : Int) (hk : k < ws.length) (hwl : ws.length < 1000) (z : Int) (hz : ws[k] = z) (hzz : 0 ≤ z ∧ z < 4294967296)
    (hh : Maps.has D (.string y) = true) (ht : D.atKey (.string y) (.lit (.int .u32 0)) = .lit (.int .u32 tz)) (hb0 : 0 ≤ base) (hb1 : base < 4294967296) (ht0 : 0 ≤ tz) (ht1 : tz < 4294967296)
    (x' : InsN) (hx : brNew base tz k (decZ z) = some x') (hf : x'.Fits) (hg : goodI x') :
    Calls Tryz.prog 49 #[.pointer (some ⟨ab, 0, none⟩), .agg #[.int .i64 line, .int .i64 (k : Int), .string (bsl y)]] w fun e w' => e = .returned .nilIface ∧ AsW w0.heap.size w0 w' ab base wv (ws.set k (encL x' (fieldsB x'.op.toNat))) lm n D qv qs := by
  have hal := (Below.refl w.heap.size w).alloc (Nat.le_refl _) (.cells #[.int .i64 line, .int .i64 (k : Int), .string (bsl y)] 97)
  have HA := Lib.hid (h.trans hal)
  have hq : (w.alloc (.cells #[.int .i64 line, .int .i64 (k : Int), .string (bsl y)] 97)).heap[w.heap.size]? = some (.cells #[.int .i64 line, .int .i64 (k : Int), .string (bsl y)] 97 (0, 0)) := heap_alloc_new _ _
  have q0 : (w.alloc (.cells #[.int .i64 line, .int .i64 (k : Int), .string (bsl y)] 97)).cell? ⟨w.heap.size, 0, none⟩ = some (.int .i64 line) := by unfold World.cell?; rw [hq]; rfl
  have q1 : (w.alloc (.cells #[.int .i64 line, .int .i64 (k : Int), .string (bsl y)] 97)).cell? ⟨w.heap.size, 1, none⟩ = some (.int .i64 (k : Int)) := by unfold World.cell?; rw [hq]; rfl
  have q2 : (w.alloc (.cells #[.int .i64 line, .int .i64 (k : Int), .string (bsl y)] 97)).cell? ⟨w.heap.size, 2, none⟩ = some (.string (bsl y)) := by unfold World.cell?; rw [hq]; rfl
  have HQ := Lib.hid hq
  obtain ⟨g, cap, rfl⟩ := Joins.ownsRow_form h.words (by omega)
  have HP0 := Lib.hid hP0
  have HZ := Lib.hid hz
  have HEN := Lib.hid (fun W (hW : Two W ad) => word_yes x' hf hg ad W hW)
  have HX := Lib.hid hx
  have HZB := Lib.hid hzz
  have hlk : ∀ j : Nat, (Instr.lookup 88 (.map (some lm)) (.string (bsl y)) true).run Tryz.prog ((w.alloc (.cells #[.int .i64 line, .int .i64 (k : Int), .string (bsl y)] 97)).drewN j) = .ok (.tuple #[.int .u32 tz, .bool true]) ((w.alloc (.cells #[.int .i64 line, .int .i64 (k : Int), .string (bsl y)] 97)).drewN j) := fun j => (HA.out.trans (bdrewN (Below.refl _ _) j)).look y hy tz hh ht
  have hlk1 : (Instr.lookup 88 (.map (some lm)) (.string (bsl y)) true).run Tryz.prog ((w.alloc (.cells #[.int .i64 line, .int .i64 (k : Int), .string (bsl y)] 97)).drew) = .ok (.tuple #[.int .u32 tz, .bool true]) ((w.alloc (.cells #[.int .i64 line, .int .i64 (k : Int), .string (bsl y)] 97)).drew) := (HA.out.drew).look y hy tz hh ht
  obtain ⟨c0, c1, c2, c3, f1, f3⟩ := AB.cells HA.out.blk
  clear h hal hh ht hP0 hq hz hzz hx hf hg
  go_enter Tryz.func49, Tryz.ntmps49
  go_upto_region 1 with fail
  generalize w.alloc (.cells #[.int .i64 line, .int .i64 (k : Int), .string (bsl y)] 97) = wa at *
  go_region
  have hgk : wa.cell? ⟨g, k, none⟩ = some (.int .u32 z) := by
    have := HA.out.words.cells rfl k (.int .u32 z) (by rw [List.getElem?_map, List.getElem?_eq_getElem hk, HZ.out]; rfl)
    have ha : (⟨g, 0, none⟩ : Addr).add k = ⟨g, k, none⟩ := by
      unfold Addr.add
      cases k <;> simp
    rw [ha] at this
    exact this
  clear hlk hlk1
  have HQ1 := Lib.hid q1
  have HGK := Lib.hid hgk
  have HBN := Lib.hid (fun n : Nat => (bdrewN (Below.refl wa.heap.size wa) n).alloc (Nat.le_refl _) (.cells #[.int .i64 0, .int .i64 0, .int .i64 0, .int .i64 0, .int .u32 0] 24))
  have k1 : ∀ n : Nat, ((wa.drewN n).alloc (.cells #[.int .i64 0, .int .i64 0, .int .i64 0, .int .i64 0, .int .u32 0] 24)).cell? ⟨ab, 1, none⟩ = some (.slice (some ⟨g, 0, none⟩) ws.length cap) := fun n => (AB.cells (HA.out.trans (HBN.out n)).blk).2.1
  have k2 : ∀ n : Nat, ((wa.drewN n).alloc (.cells #[.int .i64 0, .int .i64 0, .int .i64 0, .int .i64 0, .int .u32 0] 24)).cell? ⟨w.heap.size, 1, none⟩ = some (.int .i64 (k : Int)) := fun n => ((HBN.out n).cell (World.block_lt_of_cell? _ _ q1)).trans q1
  have k3 : ∀ n : Nat, ((wa.drewN n).alloc (.cells #[.int .i64 0, .int .i64 0, .int .i64 0, .int .i64 0, .int .u32 0] 24)).cell? ⟨g, k, none⟩ = some (.int .u32 z) := fun n => ((HBN.out n).cell (World.block_lt_of_cell? _ _ hgk)).trans hgk
  go_upto_region 4 with fail
  go_quiet (fail)
  go_upto_region 5 with fail
  have HDC := Lib.hid (fun W => decode_any z HZB.out.1 HZB.out.2 W)
  generalize hyd : decZ z = yd at *
  generalize hbh : ((base + 4 * (k : Int)) % 4294967296 + 4) % 4294967296 = bh at *
  have HBH := Lib.hid hbh
  have HYD := Lib.hid hyd
  clear hbh hyd
  go_cut [8] from 24 to 43 (fun s8 wx => ∃ bx : Nat, s8 = .pointer (some ⟨bx, 0, none⟩) ∧ Hid (InsAt wx bx yd ∧ wa.heap.size ≤ bx) ∧ Hid (Below wa.heap.size wa wx))
  case first =>
    go_region_with (go_at_call 14; refine (HDC.out _).mono ?_; rintro e w3 ⟨rfl, hb3⟩; try (have zF : Five w3 wa.heap.size 24 (.int .i64 0) (.int .i64 0) (.int .i64 0) (.int .i64 0) (.int .u32 0) := (Five.new (wa.drewN (1 + nq + 1)) (.int .i64 0) (.int .i64 0) (.int .i64 0) (.int .i64 0) (.int .u32 0) 24).below hb3 (by simp); obtain ⟨z0, z1, z2, z3, z4⟩ := Five.cells zF; obtain ⟨y0, y1, y2, y3, y4⟩ := Five.free zF))
    all_goals
      go_wp2
      go_meet
      first
      | exact ⟨_, rfl, ⟨Five.fill zF _ _ _ _ _, Nat.le_refl _⟩, below_fill ((HBN.out _).trans (hb3.mono (HBN.out _).size)) (Nat.le_refl _) _ _ _ _ _⟩
      | exact ⟨_, rfl, ⟨Five.new w3 _ _ _ _ _ _, hb3.size⟩, ((bdrewN (Below.refl wa.heap.size wa) _).trans hb3).alloc hb3.size _⟩
  case rest =>
    obtain ⟨bx, rfl, HIX, HBX⟩ := hcut
    rename World => wk
    have HAX := Lib.hid (HA.out.trans HBX.out)
    have hq1 : wk.cell? ⟨w.heap.size, 1, none⟩ = some (.int .i64 (k : Int)) := (HBX.out.cell (World.block_lt_of_cell? _ _ q1)).trans q1
    obtain ⟨x0, x1, x2, x3, x4⟩ := Five.cells HIX.out.1
    have HFD := Lib.hid (fun W => fields_any yd.op W)
    clear k1 k2 k3 c0 c1 c2 c3 f1 f3 q0 q1 q2 hgk
    go_wp2_with fail
    refine (HFD.out _).mono ?_
    rintro e w4 ⟨rfl, hb4⟩
    have HB4 := Lib.hid (HBX.out.trans (hb4.mono HBX.out.size))
    have HI4 := Lib.hid (Five.below HIX.out.1 hb4 (Five.lt HIX.out.1))
    have HA4 := Lib.hid (HA.out.trans HB4.out)
    clear hb4 HAX hq1 x0 x1 x2 x3 x4 HFD
    have hxo := HX.out
    unfold brNew at hxo
    rw [HBH.out] at hxo
    by_cases hj : fieldsB yd.op.toNat = [106]
    · rw [if_pos hj] at hxo
      have hnj : ((fieldsS yd.op).toList == [106]) = true := by
        rw [show fieldsS yd.op = bsl (fieldsB yd.op.toNat) from rfl, bsl_l2, hj]; rfl
      split at hxo
      case isFalse => cases hxo
      next hhi =>
      have hx' := (Option.some.inj hxo).symm
      have HXE := Lib.hid hx'
      clear hxo hj hx'
      obtain ⟨fs, hfs⟩ : ∃ fs, fieldsS yd.op = fs := ⟨_, rfl⟩
      rw [hfs] at hnj ⊢
      clear hfs
      obtain ⟨x0, x1, x2, x3, x4⟩ := Five.cells HI4.out
      obtain ⟨f0, f1, f2, f3, f4⟩ := Five.free HI4.out
      go_upto_region 14 with fail
      have HB5 := Lib.hid (HB4.out.setCell (p := ⟨bx, 4, none⟩) HIX.out.2 (.int .u32 (bits .and .u32 (tz / 4) 67108863)))
      have HI5 := Lib.hid (InsAt.imm (i := yd) HI4.out (bits .and .u32 (tz / 4) 67108863))
      rw [← HXE.out] at HI5
      generalize w4.setCell ⟨bx, 4, none⟩ (.int .u32 (bits .and .u32 (tz / 4) 67108863)) = w5 at *
      have HA5 := Lib.hid (HA.out.trans HB5.out)
      have HP5 := Lib.hid (HP0.out.below HA5.out.below)
      obtain ⟨x0, x1, x2, x3, x4⟩ := Five.cells HI5.out
      clear f0 f1 f2 f3 f4 HI4 HB4 HA4 hhi HXE
      go_wp2_with fail
      refine (HEN.out _ ⟨HP5.out.se.c1, HP5.out.se.c3⟩).mono ?_
      rintro e w6 ⟨rfl, hb6⟩
      have HA6 := Lib.hid (HA5.out.trans hb6)
      have hq1 : w6.cell? ⟨w.heap.size, 1, none⟩ = some (.int .i64 (k : Int)) := ((HB5.out.trans (hb6.mono HB5.out.size)).cell (World.block_lt_of_cell? _ _ HQ1.out)).trans HQ1.out
      obtain ⟨c0, c1, c2, c3, f1, f3⟩ := AB.cells HA6.out.blk
      have hfz := HA6.out.words.frozenAt k
      have hgk : w6.cell? ⟨g, k, none⟩ = some (.int .u32 z) := ((HB5.out.trans (hb6.mono HB5.out.size)).cell (World.block_lt_of_cell? _ _ HGK.out)).trans HGK.out
      have hkl : (k : Int) < (ws.length : Int) := by go_light; omega
      clear hb6 x0 x1 x2 x3 x4 HB5 HI5 HA5 HP5
      generalize hxv : encL x' (fieldsB x'.op.toNat) = xv at *
      have HXV := Lib.hid hxv
      clear hxv
      go_upto_region 15 with fail
      go_region_with fail
      all_goals
        go_wp2
        go_ret
        refine ⟨rfl, ?_⟩
        rw [HXV.out]
        first
        | exact (HA6.out.put k xv).drew
        | exact HA6.out.drew.put k xv
        | exact HA6.out.put k xv
    · rw [if_neg hj] at hxo
      have hnj : ((fieldsS yd.op).toList == [106]) = false := by
        rw [show fieldsS yd.op = bsl (fieldsB yd.op.toNat) from rfl, bsl_l2]
        exact beq_eq_false_iff_ne.2 hj
      split at hxo
      case isTrue => cases hxo
      next hdd =>
      have hx' := (Option.some.inj hxo).symm
      obtain ⟨dz, hdz⟩ : ∃ dz, wrap64 ((wrap64 (wrap32 ((tz - bh) % 4294967296))).tdiv 4) = dz := ⟨_, rfl⟩
      rw [hdz] at hdd hx'
      have hd1 : ¬ dz < -32768 := fun e => hdd (Or.inl e)
      have hd2 : ¬ 32767 < dz := fun e => hdd (Or.inr e)
      have HXE := Lib.hid hx'
      have HDZ := Lib.hid hdz
      clear hxo hj hx' hdd hdz
      obtain ⟨fs, hfs⟩ : ∃ fs, fieldsS yd.op = fs := ⟨_, rfl⟩
      rw [hfs] at hnj ⊢
      clear hfs
      go_upto_region 11 with fail
      rw [HDZ.out]
      obtain ⟨x0, x1, x2, x3, x4⟩ := Five.cells HI4.out
      obtain ⟨f0, f1, f2, f3, f4⟩ := Five.free HI4.out
      go_upto_region 14 with fail
      have HB5 := Lib.hid (HB4.out.setCell (p := ⟨bx, 4, none⟩) HIX.out.2 (.int .u32 (bits .and .u32 (dz % 4294967296) 65535)))
      have HI5 := Lib.hid (InsAt.imm (i := yd) HI4.out (bits .and .u32 (dz % 4294967296) 65535))
      rw [← HXE.out] at HI5
      generalize w4.setCell ⟨bx, 4, none⟩ (.int .u32 (bits .and .u32 (dz % 4294967296) 65535)) = w5 at *
      have HA5 := Lib.hid (HA.out.trans HB5.out)
      have HP5 := Lib.hid (HP0.out.below HA5.out.below)
      obtain ⟨x0, x1, x2, x3, x4⟩ := Five.cells HI5.out
      clear f0 f1 f2 f3 f4 HI4 HB4 HA4 hd1 hd2 HXE
      go_wp2_with fail
      refine (HEN.out _ ⟨HP5.out.se.c1, HP5.out.se.c3⟩).mono ?_
      rintro e w6 ⟨rfl, hb6⟩
      have HA6 := Lib.hid (HA5.out.trans hb6)
      have hq1 : w6.cell? ⟨w.heap.size, 1, none⟩ = some (.int .i64 (k : Int)) := ((HB5.out.trans (hb6.mono HB5.out.size)).cell (World.block_lt_of_cell? _ _ HQ1.out)).trans HQ1.out
      obtain ⟨c0, c1, c2, c3, f1, f3⟩ := AB.cells HA6.out.blk
      have hfz := HA6.out.words.frozenAt k
      have hgk : w6.cell? ⟨g, k, none⟩ = some (.int .u32 z) := ((HB5.out.trans (hb6.mono HB5.out.size)).cell (World.block_lt_of_cell? _ _ HGK.out)).trans HGK.out
      have hkl : (k : Int) < (ws.length : Int) := by go_light; omega
      clear hb6 x0 x1 x2 x3 x4 HB5 HI5 HA5 HP5
      generalize hxv : encL x' (fieldsB x'.op.toNat) = xv at *
      have HXV := Lib.hid hxv
      clear hxv
      go_upto_region 15 with fail
      go_region_with fail
      all_goals
        go_wp2
        go_ret
        refine ⟨rfl, ?_⟩
        rw [HXV.out]
        first
        | exact (HA6.out.put k xv).drew
        | exact HA6.out.drew.put k xv
        | exact HA6.out.put k xv
end Go.Proofs.YtnppegldebocmaaGreatDoor
namespace Go.Proofs.YtnppegldebocmaaGreatDoor
open Go.RowKit Go.Maps
set_option linter.unusedVariables false
theorem flat3 : ∀ (qs : Waits) (j : Nat) (h : j < qs.length), (qs.flatMap waitC)[j * 3]? = some (.int .i64 (qs[j]'h).1) ∧ (qs.flatMap waitC)[j * 3 + 1]? = some (.int .i64 (qs[j]'h).2.1) ∧ (qs.flatMap waitC)[j * 3 + 2]? = some (.string (bsl (qs[j]'h).2.2))
  | [], j, h => absurd h (by simp)
  | q :: qs, 0, h => by simp [waitC]
  | q :: qs, j + 1, h => by
    obtain ⟨a, b, c⟩ := flat3 qs j (by simpa using h)
    have e0 : (j + 1) * 3 = j * 3 + 3 := by omega
    rw [e0, List.flatMap_cons]
    refine ⟨?_, ?_, ?_⟩
    · rw [List.getElem?_append_right (by simp [waitC])]; simpa [waitC] using a
    · rw [List.getElem?_append_right (by simp [waitC])]; simpa [waitC] using b
    · rw [List.getElem?_append_right (by simp [waitC])]; simpa [waitC] using c
theorem addr_add (g j : Nat) : (⟨g, 0, none⟩ : Addr).add j = ⟨g, j, none⟩ := by
  unfold Addr.add
  cases j <;> simp
theorem goodQ_len {base : Int} : ∀ (L : List (List UInt8)) (i : Int) (st r : StQ), goodQ base i L st = some r → r.1.1.length ≤ st.1.1.length + L.length ∧ r.2.length ≤ st.2.length + L.length
  | [], i, st, r, h => by
    simp only [goodQ, Option.some.injEq] at h
    subst h
    exact ⟨Nat.le_refl _, Nat.le_refl _⟩
  | s :: L, i, st, r, h => by
    obtain ⟨st', h1, h2⟩ := goodQ_cons h
    have a := stepQ_len h1
    have b := goodQ_len L _ st' r h2
    simp only [List.length_cons]
    omega
theorem settle_step {w0 w : World} {ab : Nat} {base : Int} {wv : Value} {ws : List Int} {lm n : Nat} {D : DataW Unit} {qv : Value} {qs0 : Waits} (h : AsW w0.heap.size w0 w ab base wv ws lm n D qv qs0)
    (ad : Nat → Addr) (mz : Int) (hP0 : PW w0 ad mz) (hb0 : 0 ≤ base) (hb1 : base < 4294967296) {q : Int × Int × List UInt8} {qs : Waits} {r : List Int} (hs : SettleS base D (q :: qs) ws r) (hwl : ws.length < 1000) :
    Calls Tryz.prog 49 #[.pointer (some ⟨ab, 0, none⟩), .agg #[.int .i64 q.1, .int .i64 q.2.1, .string (bsl q.2.2)]] w fun e w' => e = .returned .nilIface ∧ ∃ ws2 : List Int, ws2.length = ws.length ∧ SettleS base D qs ws2 r ∧ AsW w0.heap.size w0 w' ab base wv ws2 lm n D qv qs0 := by
  cases hs with
  | cons i k y qs ws r tz z x' hk hy hh ht ht0 ht1 hz hz0 hz1 hx hf hg hr =>
    refine (settle_any h ad mz hP0 i k y hy tz hk hwl z hz ⟨hz0, hz1⟩ hh ht hb0 hb1 ht0 ht1 x' hx hf hg).mono ?_
    rintro e w' ⟨rfl, hA⟩
    exact ⟨rfl, _, by simp, hr, hA⟩
set_option maxHeartbeats 2000000 in
set_option maxRecDepth 1000000 in
theorem assemble_waits (L : List (List UInt8)) (hL : L.length ≤ 200) (hlen : ∀ s ∈ L, s.length ≤ 100) (base : Int) (hb0 : 0 ≤ base) (hb1 : base < 4294967296) (hb4 : base % 4 = 0) (r : StQ) (hg : goodQ base 0 L (([], .map []), []) = some r) (res : List Int) (hset : SettleS base r.1.2 r.2 r.1.1 res)
    (ad : Nat → Addr) (mz : Int) (w : World) (hP : PW w ad mz) (B0 : Nat) (v : Value) (hv : w.ownsRow B0 9 1 v L.length (L.map fun s => .string (bsl s))) :
    Calls Tryz.prog 16 #[v, .int .u32 base] w fun e w' => ∃ wv, e = .returned (.tuple #[wv, .nilIface]) ∧ w'.ownsRow w.heap.size 22 1 wv res.length (res.map (.int .u32)) ∧ Below w.heap.size w w' := by
  obtain ⟨v', c', hv'⟩ : ∃ v' c', v = .slice v' L.length c' := by
    rcases Joins.ownsRow_forms hv with ⟨rfl, hz⟩ | ⟨g, cap, rfl⟩
    · exact ⟨_, _, by rw [hz]⟩
    · exact ⟨_, _, rfl⟩
  subst hv'
  have HV := Lib.hid hv
  have HP := Lib.hid hP
  have HLEN := Lib.hid hlen
  have HG := Lib.hid hg
  have HSET := Lib.hid hset
  obtain ⟨hgl1, hgl2⟩ := goodQ_len L 0 _ r hg
  simp only [List.length_nil, Nat.zero_add] at hgl1 hgl2
  have HGL := Lib.hid (And.intro hgl1 hgl2)
  have hmm := @run_makeMap Tryz.prog
  have hbt : base.tmod 4 = 0 := by rw [Int.tmod_eq_emod_of_nonneg hb0]; exact hb4
  have hlz : ¬ (200 : Int) < (L.length : Int) := by omega
  clear hv hP hlen hg hset hgl1 hgl2
  go_enter Tryz.func16, Tryz.ntmps16
  go_wp2_with fail
  have hA0 : AsW w.heap.size w ((w.alloc (.map #[] 0)).alloc (.cells #[.int .u32 base, .slice none 0 0, .map (some w.heap.size), .slice none 0 0] 91)) (w.heap.size + 1) base (.slice none 0 0) [] w.heap.size 0 (.map []) (.slice none 0 0) [] := by
    have hz : (w.alloc (.map #[] 0)).heap.size = w.heap.size + 1 := by simp
    refine ⟨?_, World.ownsRow_nil _ _ _ _, World.ownsRow_nil _ _ _ _, (World.ownsMap_made w _ _ _).alloc _, ((Below.refl _ _).alloc (Nat.le_refl _) _).alloc (by simp) _, Nat.le_succ _, Nat.le_refl _, by simp; omega⟩
    have := heap_alloc_new (w.alloc (.map #[] 0)) (.cells #[.int .u32 base, .slice none 0 0, .map (some w.heap.size), .slice none 0 0] 91)
    rw [hz] at this
    exact this
  have HA0 := Lib.hid hA0
  clear hA0 hmm hbt
  generalize (w.alloc (.map #[] 0)).alloc (.cells #[.int .u32 base, .slice none 0 0, .map (some w.heap.size), .slice none 0 0] 91) = w2 at *
  go_loopw [29] (fun kv wr => ∃ (j : Nat) (st : StQ) (wv qv : Value) (n : Nat), j ≤ L.length ∧ n ≤ j ∧ st.1.1.length ≤ j ∧ st.2.length ≤ j ∧ kv = .int .i64 (j : Int) ∧ Hid (goodQ base (j : Int) (L.drop j) st = some r) ∧ Hid (AsW w.heap.size w wr (w.heap.size + 1) base wv st.1.1 w.heap.size n st.1.2 qv st.2)) (fun kv _ => L.length - (intOf kv).toNat)
  case atStart => exact ⟨0, (([], .map []), []), _, _, 0, Nat.zero_le _, Nat.le_refl _, Nat.le_refl _, Nat.le_refl _, rfl, HG, HA0⟩
  case round =>
    obtain ⟨j, st, wv, qv, n, hj, hnj, hsj, hqj, rfl, HGJ, HAJ⟩ := hrel
    by_cases hlt : j < L.length
    · obtain ⟨g, cap, hvf⟩ := Joins.ownsRow_form HV.out (by go_light; omega)
      have hcell : w.cell? ⟨g, j, none⟩ = some (.string (bsl L[j])) := by
        have := HV.out.cells (show (Value.slice v' L.length c').ownBlock = some g by rw [hvf]; rfl) j (.string (bsl L[j])) (by rw [List.getElem?_map, List.getElem?_eq_getElem hlt]; rfl)
        have ha : (⟨g, 0, none⟩ : Addr).add j = ⟨g, j, none⟩ := by
          unfold Addr.add
          cases j <;> simp
        rw [ha] at this
        exact this
      have hgl : g < w.heap.size := (HV.out.lt g (by rw [hvf]; rfl)).2
      simp only [Value.slice.injEq] at hvf
      obtain ⟨hv1, _, rfl⟩ := hvf
      subst hv1
      have hcr : wr.cell? ⟨g, j, none⟩ = some (.string (bsl L[j])) := (HAJ.out.below.cell (by exact hgl)).trans hcell
      have hd : L.drop j = L[j] :: L.drop (j + 1) := List.drop_eq_getElem_cons hlt
      have hgj := HGJ.out
      rw [hd] at hgj
      obtain ⟨st', h1, h2⟩ := goodQ_cons hgj
      have hsl : L[j].length ≤ 100 := HLEN.out _ (List.getElem_mem hlt)
      have HLI := Lib.hid (lineq_good st st' HAJ.out ad mz HP.out (j : Int) L[j] hsl (by go_light; omega) (by go_light; omega) (by go_light; omega) h1)
      have HS2 := Lib.hid (stepQ_len h1)
      have HG2 : Hid (goodQ base ((j + 1 : Nat) : Int) (L.drop (j + 1)) st' = some r) := by show _ = _; rw [← h2]; congr 1
      have hjl : (j : Int) < (L.length : Int) := by go_light; omega
      generalize L[j] = sj at *
      clear hcell hd hgj h1 h2 hsl hgl
      go_wp2_with fail
      refine HLI.out.mono ?_
      rintro e w3 ⟨rfl, wv', qv', n', hn', hA3⟩
      have HA3 := Lib.hid hA3
      clear hA3
      go_wp2_with fail
      go_roundw
      case rel => exact ⟨j + 1, st', wv', qv', n', hlt, by go_light; omega, by have := HS2.out.1; go_light; omega, by have := HS2.out.2; go_light; omega, by go_num, HG2, HA3⟩
      case measure => go_light; simp [intOf]; omega
    · have hje : j = L.length := by go_light; omega
      subst hje
      have hgj := HGJ.out
      rw [List.drop_length] at hgj
      have hst : st = r := Option.some.inj hgj
      subst hst
      have HAJ2 := HAJ
      obtain ⟨c0, c1, c2, c3, f1, f3⟩ := AB.cells HAJ.out.blk
      obtain ⟨q', qc', hq'⟩ : ∃ q' qc', qv = .slice q' st.2.length qc' := by
        rcases Joins.ownsRow_forms HAJ.out.waits with ⟨rfl, hz⟩ | ⟨g, cap, rfl⟩
        · exact ⟨_, _, by rw [hz]⟩
        · exact ⟨_, _, rfl⟩
      subst hq'
      clear hlt hgj
      go_wp2_with fail
      go_loopw [51] (fun kv wx => ∃ (k : Nat) (ws' : List Int), k ≤ st.2.length ∧ ws'.length ≤ 200 ∧ kv = .int .i64 (k : Int) ∧ Hid (SettleS base st.1.2 (st.2.drop k) ws' res) ∧ Hid (AsW w.heap.size w wx (w.heap.size + 1) base wv ws' w.heap.size n st.1.2 (.slice q' st.2.length qc') st.2)) (fun kv _ => st.2.length - (intOf kv).toNat)
      case atStart => exact ⟨0, st.1.1, Nat.zero_le _, by have := HGL.out.1; go_light; omega, rfl, HSET, HAJ2⟩
      case round =>
        obtain ⟨k, ws', hk, hwl, rfl, HSJ, HAK⟩ := hrel
        by_cases hlt : k < st.2.length
        · obtain ⟨g, cap, hvf⟩ := Joins.ownsRow_form HAK.out.waits (by go_light; omega)
          obtain ⟨t0, t1, t2⟩ := flat3 st.2 k hlt
          have hca := HAK.out.waits.cells (show (Value.slice q' st.2.length qc').ownBlock = some g by rw [hvf]; rfl)
          have hd : st.2.drop k = st.2[k] :: st.2.drop (k + 1) := List.drop_eq_getElem_cons hlt
          have hsj := HSJ.out
          rw [hd] at hsj
          have hc0 := hca _ _ t0
          have hc1 := hca _ _ t1
          have hc2 := hca _ _ t2
          rw [addr_add] at hc0 hc1 hc2
          simp only [Value.slice.injEq] at hvf
          obtain ⟨hv1, _, rfl⟩ := hvf
          subst hv1
          have hkl : (k : Int) < (st.2.length : Int) := by go_light; omega
          generalize st.2[k] = q at *
          have hal := (Below.refl wr.heap.size wr).alloc (Nat.le_refl _) (.cells #[.int .i64 q.1, .int .i64 q.2.1, .string (bsl q.2.2)] 97)
          have HST := Lib.hid (settle_step (HAK.out.trans hal) ad mz HP.out hb0 hb1 hsj (by go_light; omega))
          clear hca t0 t1 t2 hd hsj hal
          go_wp2_with fail
          refine HST.out.mono ?_
          rintro e w3 ⟨rfl, ws2, hws2, hsj2, hA3⟩
          have HA3 := Lib.hid hA3
          have HSJ2 := Lib.hid hsj2
          clear hA3 hsj2 HST hc0 hc1 hc2
          go_wp2_with fail
          go_roundw
          case rel => exact ⟨k + 1, ws2, hlt, by go_light; omega, by go_num, HSJ2, HA3⟩
          case measure => go_light; simp [intOf]; omega
        · have hke : k = st.2.length := by go_light; omega
          subst hke
          have hsj := HSJ.out
          rw [List.drop_length] at hsj
          have hre : ws' = res := by cases hsj; rfl
          subst hre
          obtain ⟨d0, d1, d2, d3, g1, g3⟩ := AB.cells HAK.out.blk
          clear hlt hsj
          go_wp2_with fail
          exact bodyPost_ret (v := .tuple #[wv, .nilIface]) (by simp [results, Tryz.results16, go_sem]) rfl ⟨wv, rfl, HAK.out.words, HAK.out.below⟩
end Go.Proofs.YtnppegldebocmaaGreatDoor
namespace Go.Proofs.YtnppegldebocmaaGreatDoor
open Go.RowKit Go.Maps
set_option linter.unusedVariables false
abbrev Labs := List (List UInt8 × Int)
/-- Labels as a map. -/
def labsD (ns : Labs) : DataW Unit := ns.foldl (fun D x => D.put (.string x.1) (.lit (.int .u32 x.2))) (.map [])
/-- Where a label is. -/
def findL (y : List UInt8) (ns : Labs) : Option Int := ns.foldl (fun o x => if x.1 = y then some x.2 else o) none
theorem findL_snoc (y : List UInt8) (ns : Labs) (x : List UInt8 × Int) : findL y (ns ++ [x]) = if x.1 = y then some x.2 else findL y ns := by simp [findL]
theorem labsD_snoc (ns : Labs) (x : List UInt8 × Int) : labsD (ns ++ [x]) = (labsD ns).put (.string x.1) (.lit (.int .u32 x.2)) := by simp [labsD]
structure Known (D : DataW Unit) (o : Option Int) (y : List UInt8) : Prop where
  map : IsMap D
  has : Maps.has D (.string y) = o.isSome
  val : ∀ z, o = some z → D.atKey (.string y) (.lit (.int .u32 0)) = .lit (.int .u32 z)
theorem known_fold (y : List UInt8) : ∀ (ns : Labs) (D : DataW Unit) (o : Option Int), Known D o y → Known (ns.foldl (fun D x => D.put (.string x.1) (.lit (.int .u32 x.2))) D) (ns.foldl (fun o x => if x.1 = y then some x.2 else o) o) y
  | [], D, o, h => h
  | x :: ns, D, o, h => by
    simp only [List.foldl_cons]
    refine known_fold y ns _ _ ?_
    have hm : IsMap (D.put (.string x.1) (.lit (.int .u32 x.2))) := by
      obtain ⟨es, rfl⟩ := h.map
      exact ⟨_, rfl⟩
    by_cases e : x.1 = y
    · subst e
      rw [if_pos rfl]
      exact ⟨hm, has_put_same h.map (show WideAt.IsKeyLit (.string x.1) from trivial) _, fun z hz => by cases hz; exact atKey_put_same h.map (show WideAt.IsKeyLit (.string x.1) from trivial) _ _⟩
    · rw [if_neg e]
      have hne : (Lit.string y) ≠ (Lit.string x.1) := fun e2 => e (by cases e2; rfl)
      exact ⟨hm, (has_put_other hne _).trans h.has, fun z hz => (atKey_put_other hne _ _).trans (h.val z hz)⟩
theorem known_labs (y : List UInt8) (ns : Labs) : Known (labsD ns) (findL y ns) y := known_fold y ns _ _ ⟨⟨[], rfl⟩, rfl, fun z hz => by cases hz⟩
abbrev StE := (List Int × Labs) × Waits
/-- The word of a line that begins with .word. -/
def wordLine (s : List UInt8) : Option Nat := if Lib.hasPrefix (Lib.trimPrefix s [46, 119, 111, 114, 100]) [32] = true then wordB (Lib.trimPrefix (Lib.trimPrefix s [46, 119, 111, 114, 100]) [32]) else none
/-- A line: what it makes, or what is wrong. -/
def stepE (base : Int) (i : Int) (st : StE) (s : List UInt8) : Except Nat StE :=
  if Lib.hasSuffix s [58] = true then
    if labelB (Lib.trimSuffix s [58]) = true then
      if (findL (Lib.trimSuffix s [58]) st.1.2).isSome = true then .error 7 else .ok ((st.1.1, st.1.2 ++ [(Lib.trimSuffix s [58], hereZ base st.1.1.length)]), st.2)
    else .error 1
  else if Lib.hasPrefix s [46, 119, 111, 114, 100] = true then
    match wordLine s with
    | some u => .ok ((st.1.1 ++ [(u : Int)], st.1.2), st.2)
    | none => .error 1
  else match labelledB s with
    | some (l, y) => if (parseB l).2 = 0 then .ok ((st.1.1 ++ [encL (parseB l).1 (fieldsB (parseB l).1.op.toNat)], st.1.2), st.2 ++ [(i, (st.1.1.length : Int), y)]) else .error (parseB l).2
    | none => if (parseB s).2 = 0 then .ok ((st.1.1 ++ [encL (parseB s).1 (fieldsB (parseB s).1.op.toNat)], st.1.2), st.2) else .error (parseB s).2
def goodE (base : Int) : Int → List (List UInt8) → StE → Except (Int × Nat) StE
  | _, [], st => .ok st
  | i, s :: L, st => match stepE base i st s with
    | .error k => .error (i, k)
    | .ok st' => goodE base (i + 1) L st'
/-- Branches that wait are settled, or the first that is not. -/
def settleE (base : Int) (ns : Labs) : Waits → List Int → Except (Int × Nat) (List Int)
  | [], ws => .ok ws
  | q :: qs, ws => match findL q.2.2 ns with
    | none => .error (q.1, 6)
    | some tz => match brNew base tz q.2.1.toNat (decZ (ws.getD q.2.1.toNat 0)) with
      | none => .error (q.1, 10)
      | some x => settleE base ns qs (ws.set q.2.1.toNat (encL x (fieldsB x.op.toNat)))
def asmE (base : Int) (L : List (List UInt8)) : Except (Int × Nat) (List Int) := match goodE base 0 L (([], []), []) with
  | .error e => .error e
  | .ok st => settleE base st.1.2 st.2 st.1.1
def asQ (st : StE) : StQ := ((st.1.1, labsD st.1.2), st.2)
theorem stepE_ok {base i : Int} {st st' : StE} {s : List UInt8} (h : stepE base i st s = .ok st') : stepQ base i (asQ st) s = some (asQ st') := by
  unfold stepE at h
  unfold stepQ
  by_cases hs : Lib.hasSuffix s [58] = true
  · rw [if_pos hs] at h
    rw [if_neg (fun hc => by rw [hs] at hc; cases hc.1)]
    split at h
    · next hl =>
      split at h
      · cases h
      · next hf =>
        cases h
        have hk := known_labs (Lib.trimSuffix s [58]) st.1.2
        have hh : Maps.has (asQ st).1.2 (.string (Lib.trimSuffix s [58])) = false := by rw [show (asQ st).1.2 = labsD st.1.2 from rfl, hk.has]; simpa using hf
        unfold stepB
        rw [if_pos hs, if_pos ⟨hl, hh⟩]
        simp only [Option.map_some, asQ, labsD_snoc]
    · cases h
  · have hsf : Lib.hasSuffix s [58] = false := by simpa using hs
    rw [if_neg hs] at h
    by_cases hp : Lib.hasPrefix s [46, 119, 111, 114, 100] = true
    · rw [if_pos hp] at h
      rw [if_neg (fun hc => by rw [hp] at hc; cases hc.2)]
      unfold stepB
      rw [if_neg hs, if_pos hp]
      cases hw : wordLine s with
      | none => rw [hw] at h; cases h
      | some u =>
        rw [hw] at h
        cases h
        unfold wordLine at hw
        split at hw
        · next hsp =>
          rw [if_pos hsp, hw]
          rfl
        · cases hw
    · have hpf : Lib.hasPrefix s [46, 119, 111, 114, 100] = false := by simpa using hp
      rw [if_neg hp] at h
      rw [if_pos ⟨hsf, hpf⟩]
      cases hlb : labelledB s with
      | some r =>
        obtain ⟨l, y⟩ := r
        rw [hlb] at h
        simp only at h ⊢
        split at h
        · next h0 => cases h; rw [if_pos h0]; rfl
        · cases h
      | none =>
        rw [hlb] at h
        simp only at h ⊢
        split at h
        · next h0 =>
          cases h
          unfold stepB
          rw [if_neg hs, if_neg hp, if_pos ⟨hlb, h0⟩]
          rfl
        · cases h
theorem goodE_ok {base : Int} : ∀ (L : List (List UInt8)) (i : Int) (st r : StE), goodE base i L st = .ok r → goodQ base i L (asQ st) = some (asQ r)
  | [], i, st, r, h => by
    simp only [goodE, Except.ok.injEq] at h
    rw [h]
    rfl
  | s :: L, i, st, r, h => by
    show (match stepQ base i (asQ st) s with | none => none | some st' => goodQ base (i + 1) L st') = _
    unfold goodE at h
    cases hs : stepE base i st s with
    | error k => rw [hs] at h; cases h
    | ok st' =>
      rw [hs] at h
      rw [stepE_ok hs]
      exact goodE_ok L (i + 1) st' r h
/-- A branch that waits, and its word. -/
def WaitOK (ws : List Int) (q : Int × Int × List UInt8) : Prop := ∃ (k : Nat) (x : InsN), q.2.1 = (k : Int) ∧ ws[k]? = some (encL x (fieldsB x.op.toNat)) ∧ goodI x ∧ x.Fits ∧ isBr x.op.toNat = true ∧ q.2.2.length ≤ 100
theorem WaitOK.snoc {ws : List Int} {q : Int × Int × List UInt8} (h : WaitOK ws q) (z : Int) : WaitOK (ws ++ [z]) q := by
  obtain ⟨k, x, h1, h2, h3⟩ := h
  exact ⟨k, x, h1, by rw [List.getElem?_append_left (List.getElem?_eq_some_iff.1 h2).1]; exact h2, h3⟩
theorem WaitOK.set {ws : List Int} {q : Int × Int × List UInt8} (h : WaitOK ws q) (k : Nat) (x' : InsN) (hg : goodI x') (hf : x'.Fits) (hb : isBr x'.op.toNat = true) : WaitOK (ws.set k (encL x' (fieldsB x'.op.toNat))) q := by
  obtain ⟨j, x, h1, h2, h3⟩ := h
  have hlt := (List.getElem?_eq_some_iff.1 h2).1
  by_cases e : k = j
  · subst e
    exact ⟨k, x', h1, by rw [List.getElem?_set_self hlt], hg, hf, hb, h3.2.2.2⟩
  · exact ⟨j, x, h1, by rw [List.getElem?_set_ne e]; exact h2, h3⟩
/-- A branch's fields: two ways. -/
theorem br_fields : ∀ k, k < 54 → (isBr k = true → (fieldsB k = [106] ∨ fieldsB k = [83, 84, 105] ∨ fieldsB k = [83, 105])) := by decide +kernel
theorem cutC_not (c : UInt8) : ∀ s : List UInt8, c ∉ (cutC c s).1
  | [] => by simp [cutC]
  | x :: t => by
    have ih := cutC_not c t
    unfold cutC
    split
    · simp
    · next h =>
      intro hm
      rcases List.mem_cons.1 hm with e | e
      · exact h e.symm
      · exact ih e
theorem parse_op {s : List UInt8} {x : InsN} (h : parseB s = (x, 0)) : x.op.toNat = nameN (cutC 32 s).1 := by
  obtain ⟨hg, _, ht⟩ := text_parse s x h
  have k1 : 1 ≤ x.op.toNat := by have := hg.1; omega
  have k2 : x.op.toNat < 54 := by have := hg.1; omega
  have hnf := names_free x.op.toNat k2
  have hc : (cutC 32 s).1 = nameB x.op.toNat := by
    rw [← ht]
    unfold textB
    rcases tailB_form x x.op.toNat with e | ⟨r, e⟩
    · rw [e, List.append_nil, cutC_none 32 _ hnf]
    · rw [e, cutC_free 32 _ _ hnf]
  rw [hc, nameN_hit _ _ k1 k2 rfl]
theorem labelled_op {s l y : List UInt8} (h : labelledB s = some (l, y)) : (cutC 32 l).1 = (cutC 32 s).1 ∧ isBr (nameN (cutC 32 s).1) = true ∧ l.length ≤ s.length ∧ y.length ≤ s.length := by
  obtain ⟨a, b, _⟩ := labelled_len h
  refine ⟨?_, ?_, a, b⟩
  all_goals
    rcases snoc_of (piecesB s) with h0 | ⟨xs, z, hL⟩
    · rw [labelledB_nil h0] at h; cases h
    · rw [labelledB_snoc hL] at h
      split at h
      · next hc =>
        cases h
        rw [Bool.and_eq_true] at hc
        first
        | exact hc.1
        | rw [cutC_free 32 _ _ (cutC_not 32 s)]
      · cases h
theorem enc_rng2 (i : InsN) (hg : goodI i) : 0 ≤ encL i (fieldsB i.op.toNat) ∧ encL i (fieldsB i.op.toNat) < 4294967296 := by
  obtain ⟨h1, _, _⟩ := good_parts i i.op.toNat (by have := hg.1; omega) hg.2
  obtain ⟨e1, e2, _, _⟩ := enc_parts i i.op.toNat (by have := hg.1; omega) (by have := hg.1; omega) h1
  rw [e1]
  omega
theorem dec_of_enc2 (i : InsN) (hg : goodI i) (hf : i.Fits) : decZ (encL i (fieldsB i.op.toNat)) = i := dec_of_enc i i.op.toNat (by have := hg.1; omega) (by have := hg.1; omega) (by have := hg.1; omega) hf.m0 hg.2
theorem WaitOK.range {ws : List Int} {q : Int × Int × List UInt8} (h : WaitOK ws q) : ∃ (k : Nat) (x : InsN) (hk : k < ws.length), q.2.1 = (k : Int) ∧ (0 ≤ ws[k] ∧ ws[k] < 4294967296) ∧ decZ ws[k] = x ∧ goodI x ∧ x.Fits ∧ isBr x.op.toNat = true ∧ q.2.2.length ≤ 100 := by
  obtain ⟨k, x, h1, h2, hg, hf, hb, hy⟩ := h
  obtain ⟨hk, e⟩ := List.getElem?_eq_some_iff.1 h2
  exact ⟨k, x, hk, h1, by rw [e]; exact enc_rng2 x hg, by rw [e]; exact dec_of_enc2 x hg hf, hg, hf, hb, hy⟩
theorem good_imm (x : InsN) (m : Int) (hg : goodI x) (hf : x.Fits) (hm : fieldsB x.op.toNat = [106] ∧ 0 ≤ m ∧ m < 67108864 ∨ (fieldsB x.op.toNat = [83, 84, 105] ∨ fieldsB x.op.toNat = [83, 105]) ∧ 0 ≤ m ∧ m < 65536) :
    goodI { x with imm := m } ∧ InsN.Fits { x with imm := m } := by
  obtain ⟨hr, hb⟩ := hg
  refine ⟨⟨hr, ?_⟩, ⟨hf.o0, hf.o1, hf.s0, hf.s1, hf.t0, hf.t1, hf.d0, hf.d1, by rcases hm with h | h <;> (show 0 ≤ m; omega), by rcases hm with h | h <;> (show m < 4294967296; omega)⟩⟩
  unfold encBad bad2 at hb ⊢
  rcases hm with ⟨e, h0, h1⟩ | ⟨e | e, h0, h1⟩
  all_goals
    simp only [e] at hb ⊢
    simp [okF, valF, mostF] at hb ⊢
    omega
theorem brNew_good {base tz : Int} {k : Nat} {x x' : InsN} (h : brNew base tz k x = some x') (hg : goodI x) (hf : x.Fits) (hb : isBr x.op.toNat = true) (ht0 : 0 ≤ tz) (ht1 : tz < 4294967296) : goodI x' ∧ x'.Fits ∧ isBr x'.op.toNat = true := by
  have hx := br_fields x.op.toNat (by have := hg.1; omega) hb
  unfold brNew at h
  split at h
  · next e =>
    split at h
    · cases h
      have h26 := and_26 (tz / 4) (by omega) (by omega)
      have h27 : bits .and .u32 (tz / 4) 67108863 = tz / 4 % 67108864 := h26
      obtain ⟨a, b⟩ := good_imm x (bits .and .u32 (tz / 4) 67108863) hg hf (Or.inl ⟨e, by rw [h27]; omega, by rw [h27]; omega⟩)
      exact ⟨a, b, hb⟩
    · cases h
  · next e =>
    split at h
    · cases h
    · cases h
      rw [and_imm]
      obtain ⟨a, b⟩ := good_imm x _ hg hf (Or.inr ⟨by rcases hx with e2 | e2 | e2 <;> first | exact absurd e2 e | exact Or.inl e2 | exact Or.inr e2, Int.emod_nonneg _ (by decide), Int.emod_lt_of_pos _ (by decide)⟩)
      exact ⟨a, b, hb⟩
theorem stepE_keeps {base i : Int} {st st' : StE} {s : List UInt8} (h : stepE base i st s = .ok st') (hl : s.length ≤ 100) (hq : ∀ q ∈ st.2, WaitOK st.1.1 q) (hn : ∀ x ∈ st.1.2, 0 ≤ x.2 ∧ x.2 < 4294967296) : (∀ q ∈ st'.2, WaitOK st'.1.1 q) ∧ (∀ x ∈ st'.1.2, 0 ≤ x.2 ∧ x.2 < 4294967296) := by
  unfold stepE at h
  split at h
  · split at h
    · split at h
      · cases h
      · cases h
        refine ⟨hq, fun x hx => ?_⟩
        rcases List.mem_append.1 hx with hx | hx
        · exact hn x hx
        · rcases List.mem_singleton.1 hx with rfl
          show 0 ≤ hereZ _ _ ∧ hereZ _ _ < 4294967296
          unfold hereZ
          omega
    · cases h
  · split at h
    · split at h
      · cases h; exact ⟨fun q hq2 => (hq q hq2).snoc _, hn⟩
      · cases h
    · split at h
      · next l y hly =>
        split at h
        · next h0 =>
          cases h
          refine ⟨fun q hq2 => ?_, hn⟩
          rcases List.mem_append.1 hq2 with hq2 | hq2
          · exact (hq q hq2).snoc _
          · rcases List.mem_singleton.1 hq2 with rfl
            have hx : parseB l = ((parseB l).1, 0) := by rw [← h0]
            obtain ⟨hg, hf, _⟩ := text_parse l _ hx
            obtain ⟨hc, hb, _, hy⟩ := labelled_op hly
            refine ⟨st.1.1.length, (parseB l).1, rfl, by simp, hg, hf, ?_, by show y.length ≤ 100; omega⟩
            rw [parse_op hx, hc]
            exact hb
        · cases h
      · split at h
        · cases h; exact ⟨fun q hq2 => (hq q hq2).snoc _, hn⟩
        · cases h
theorem goodE_keeps {base : Int} : ∀ (L : List (List UInt8)) (i : Int) (st r : StE), goodE base i L st = .ok r → (∀ s ∈ L, s.length ≤ 100) → (∀ q ∈ st.2, WaitOK st.1.1 q) → (∀ x ∈ st.1.2, 0 ≤ x.2 ∧ x.2 < 4294967296) → (∀ q ∈ r.2, WaitOK r.1.1 q) ∧ (∀ x ∈ r.1.2, 0 ≤ x.2 ∧ x.2 < 4294967296)
  | [], i, st, r, h, _, hq, hn => by
    simp only [goodE, Except.ok.injEq] at h
    subst h
    exact ⟨hq, hn⟩
  | s :: L, i, st, r, h, hl, hq, hn => by
    unfold goodE at h
    cases hs : stepE base i st s with
    | error k => rw [hs] at h; cases h
    | ok st' =>
      rw [hs] at h
      obtain ⟨a, b⟩ := stepE_keeps hs (hl s List.mem_cons_self) hq hn
      exact goodE_keeps L (i + 1) st' r h (fun s hs => hl s (List.mem_cons_of_mem _ hs)) a b
theorem findL_range {ns : Labs} (hn : ∀ x ∈ ns, 0 ≤ x.2 ∧ x.2 < 4294967296) {y : List UInt8} {z : Int} (h : findL y ns = some z) : 0 ≤ z ∧ z < 4294967296 := by
  have gen : ∀ (ns : Labs) (o : Option Int), (∀ x ∈ ns, 0 ≤ x.2 ∧ x.2 < 4294967296) → (∀ z, o = some z → 0 ≤ z ∧ z < 4294967296) → ∀ z, ns.foldl (fun o x => if x.1 = y then some x.2 else o) o = some z → 0 ≤ z ∧ z < 4294967296 := by
    intro ns
    induction ns with
    | nil => intro o _ ho z hz; exact ho z hz
    | cons x r ih =>
      intro o hn ho z hz
      simp only [List.foldl_cons] at hz
      refine ih _ (fun x hx => hn x (List.mem_cons_of_mem _ hx)) ?_ z hz
      intro z hz
      split at hz
      · cases hz; exact hn x List.mem_cons_self
      · exact ho z hz
  exact gen ns none hn (fun z hz => by cases hz) z h
end Go.Proofs.YtnppegldebocmaaGreatDoor
namespace Go.Proofs.YtnppegldebocmaaGreatDoor
open Go.RowKit Go.Maps
set_option linter.unusedVariables false
set_option maxHeartbeats 2000000 in
set_option maxRecDepth 1000000 in
theorem line_nolabel {B : Nat} {w0 w : World} {ab : Nat} {base : Int} {wv : Value} {ws : List Int} {lm n : Nat} {D : DataW Unit} {qv : Value} {qs : List (Int × Int × List UInt8)} (h : AsW B w0 w ab base wv ws lm n D qv qs)
    (ad : Nat → Addr) (mz : Int) (hP : PW w ad mz) (i : Int) (s nm : List UInt8) (hl : s.length ≤ 100) (hs : Lib.hasSuffix s [58] = true) (hnm : Lib.trimSuffix s [58] = nm) (hnl : nm.length ≤ 100) (hlab : labelB nm = false) :
    Calls Tryz.prog 48 #[.pointer (some ⟨ab, 0, none⟩), .int .i64 i, .string (bsl s)] w fun e w' => e = .returned (errE ad 0) ∧ Below B w0 w' := by
  have HS := Lib.hid (suffix_any s hl w)
  rw [hs, hnm] at HS
  have HLA := Lib.hid (label_any nm hnl w)
  rw [hlab] at HLA
  have HA := Lib.hid h
  have HP := Lib.hid hP
  clear h hs hnm hlab hP
  go_enter Tryz.func48, Tryz.ntmps48
  go_wp2_with fail
  refine HS.out.mono ?_
  rintro e w1 ⟨rfl, rfl⟩
  go_wp2_with fail
  refine HLA.out.mono ?_
  rintro e w2 ⟨rfl, hb2⟩
  have HA2 := Lib.hid (HA.out.trans hb2)
  have cE := (HP.out.below hb2).se.c0
  clear hb2 HA
  go_wp2_with fail
  go_ret
  exact ⟨rfl, HA2.out.below⟩
set_option maxHeartbeats 2000000 in
set_option maxRecDepth 1000000 in
theorem line_exists {B : Nat} {w0 w : World} {ab : Nat} {base : Int} {wv : Value} {ws : List Int} {lm n : Nat} {D : DataW Unit} {qv : Value} {qs : List (Int × Int × List UInt8)} (h : AsW B w0 w ab base wv ws lm n D qv qs)
    (ad : Nat → Addr) (mz : Int) (hP : PW w ad mz) (i : Int) (s nm : List UInt8) (hl : s.length ≤ 100) (hs : Lib.hasSuffix s [58] = true) (hnm : Lib.trimSuffix s [58] = nm) (hnl : nm.length ≤ 100) (hlab : labelB nm = true) (tz : Int) (hh : Maps.has D (.string nm) = true) (ht : D.atKey (.string nm) (.lit (.int .u32 0)) = .lit (.int .u32 tz)) :
    Calls Tryz.prog 48 #[.pointer (some ⟨ab, 0, none⟩), .int .i64 i, .string (bsl s)] w fun e w' => e = .returned (errE ad 6) ∧ Below B w0 w' := by
  have HS := Lib.hid (suffix_any s hl w)
  rw [hs, hnm] at HS
  have HLA := Lib.hid (label_any nm hnl w)
  rw [hlab] at HLA
  have HA := Lib.hid h
  have HP := Lib.hid hP
  have HH := Lib.hid (And.intro hh ht)
  clear h hs hnm hlab hP hh ht
  go_enter Tryz.func48, Tryz.ntmps48
  go_wp2_with fail
  refine HS.out.mono ?_
  rintro e w1 ⟨rfl, rfl⟩
  go_wp2_with fail
  refine HLA.out.mono ?_
  rintro e w2 ⟨rfl, hb2⟩
  have HA2 := Lib.hid (HA.out.trans hb2)
  have cE := (HP.out.below hb2).se.c6
  clear hb2 HA
  obtain ⟨c0, c1, c2, c3, f1, f3⟩ := AB.cells HA2.out.blk
  have hlk := HA2.out.look nm hnl tz HH.out.1 HH.out.2
  go_wp2_with fail
  go_ret
  exact ⟨rfl, HA2.out.below⟩
set_option maxHeartbeats 2000000 in
set_option maxRecDepth 1000000 in
theorem line_nospace {B : Nat} {w0 w : World} {ab : Nat} {base : Int} {wv : Value} {ws : List Int} {lm n : Nat} {D : DataW Unit} {qv : Value} {qs : List (Int × Int × List UInt8)} (h : AsW B w0 w ab base wv ws lm n D qv qs)
    (ad : Nat → Addr) (mz : Int) (hP : PW w ad mz) (i : Int) (s d : List UInt8) (hl : s.length ≤ 100) (hs : Lib.hasSuffix s [58] = false) (hp : Lib.hasPrefix s [46, 119, 111, 114, 100] = true) (hd : Lib.trimPrefix s [46, 119, 111, 114, 100] = d) (hdl : (Lib.trimPrefix d [32]).length ≤ 100) (hsp : Lib.hasPrefix d [32] = false) (hwl : ws.length < 1000) :
    Calls Tryz.prog 48 #[.pointer (some ⟨ab, 0, none⟩), .int .i64 i, .string (bsl s)] w fun e w' => e = .returned (errE ad 0) ∧ Below B w0 w' := by
  have HS := Lib.hid (suffix_any s hl w)
  rw [hs] at HS
  have HPF := Lib.hid (prefix_any s w)
  rw [hp, hd] at HPF
  have HTS := Lib.hid (trimSp_any d w)
  have HWD := Lib.hid (word_asm (Lib.trimPrefix d [32]) hdl ad mz w hP)
  have HSP := Lib.hid (fun W => hasSp_any d W)
  rw [hsp] at HSP
  clear hsp
  have HA := Lib.hid h
  have HP := Lib.hid hP
  have HWL := Lib.hid hwl
  obtain ⟨iU, hU1, hU2, hU3, hU4⟩ := info_parts Tryz.infoU
  clear h hs hp hd hP hdl hwl
  generalize Lib.trimPrefix d [32] = d2 at *
  generalize Lib.trimSuffix s [58] = ts at *
  go_enter Tryz.func48, Tryz.ntmps48
  go_wp2_with fail
  refine HS.out.mono ?_
  rintro e w1 ⟨rfl, rfl⟩
  go_wp2_with fail
  refine HPF.out.mono ?_
  rintro e w1 ⟨rfl, rfl⟩
  go_wp2_with fail
  refine HTS.out.mono ?_
  rintro e w1 ⟨rfl, rfl⟩
  go_wp2_with fail
  refine HWD.out.mono ?_
  rintro e w2 ⟨hb2, ⟨u', hu', rfl⟩ | ⟨hn, rfl⟩⟩
  all_goals
    have HA2 := Lib.hid (HA.out.trans hb2)
    have cE := (HP.out.below hb2).se.c0
    have HE2 := Lib.hid (HP.out.below hb2)
    clear hb2 HA
    go_wp2_with fail
    refine (HSP.out _).mono ?_
    rintro e w3 ⟨rfl, rfl⟩
    obtain ⟨c0, c1, c2, c3, f1, f3⟩ := AB.cells HA2.out.blk
    have hsize := HA2.out.size
    have hwl := HWL.out
    go_wp2_with (at_builtin; refine wpList_append_lies _ rfl (.tmp 69) (.tmp 71) 39 rfl B 22 iU (.int .u32 0) 1 4 Tryz.underlying39 hU1 hU2 hU3 hU4 rfl (by decide) _ _ _ rfl (HA2.out.words.alloc _) _ 1 1 [_] rfl rfl (cell_one_new _ _ _) (fun x hx => by simp at hx; subst hx; rfl) (by decide) (by unfold maxLen; omega) (by omega) (by simp; omega) _ rfl ?_)
    intro g0 cap0 w4 hown4 hgrow4 hat4 hlt4
    have hgr : w2.grownBy w4 wv.ownBlock := (World.grownBy_alloc w2 _ _).trans hgrow4
    have hA4 := HA2.out.word hown4 hgr
    have HA4 := Lib.hid hA4
    have hab4 : AB w4 ab base wv lm qv := (hgr.block ab (Array.getElem?_eq_some_iff.1 HA2.out.blk).1 (own_ne HA2.out.words HA2.out.blk (by decide))).trans HA2.out.blk
    clear hown4 hgrow4 hat4 hlt4 hgr hA4
    obtain ⟨a0, a1, a2, a3, b1, b3⟩ := AB.cells hab4
    clear c0 c1 c2 c3 f1 f3 hab4
    go_wp2_with fail
    go_ret
    exact ⟨rfl, HA4.out.below⟩
set_option maxHeartbeats 2000000 in
set_option maxRecDepth 1000000 in
theorem line_noword {B : Nat} {w0 w : World} {ab : Nat} {base : Int} {wv : Value} {ws : List Int} {lm n : Nat} {D : DataW Unit} {qv : Value} {qs : List (Int × Int × List UInt8)} (h : AsW B w0 w ab base wv ws lm n D qv qs)
    (ad : Nat → Addr) (mz : Int) (hP : PW w ad mz) (i : Int) (s d : List UInt8) (hl : s.length ≤ 100) (hs : Lib.hasSuffix s [58] = false) (hp : Lib.hasPrefix s [46, 119, 111, 114, 100] = true) (hd : Lib.trimPrefix s [46, 119, 111, 114, 100] = d) (hdl : (Lib.trimPrefix d [32]).length ≤ 100) (hsp : Lib.hasPrefix d [32] = true) (hw : wordB (Lib.trimPrefix d [32]) = none) (hwl : ws.length < 1000) :
    Calls Tryz.prog 48 #[.pointer (some ⟨ab, 0, none⟩), .int .i64 i, .string (bsl s)] w fun e w' => e = .returned (errE ad 0) ∧ Below B w0 w' := by
  have HS := Lib.hid (suffix_any s hl w)
  rw [hs] at HS
  have HPF := Lib.hid (prefix_any s w)
  rw [hp, hd] at HPF
  have HTS := Lib.hid (trimSp_any d w)
  have HWD := Lib.hid (word_asm (Lib.trimPrefix d [32]) hdl ad mz w hP)
  have HSP := Lib.hid (fun W => hasSp_any d W)
  rw [hsp] at HSP
  have HWU := Lib.hid hw
  clear hsp
  have HA := Lib.hid h
  have HP := Lib.hid hP
  have HWL := Lib.hid hwl
  obtain ⟨iU, hU1, hU2, hU3, hU4⟩ := info_parts Tryz.infoU
  clear h hs hp hd hw hP hdl hwl
  generalize Lib.trimPrefix d [32] = d2 at *
  generalize Lib.trimSuffix s [58] = ts at *
  go_enter Tryz.func48, Tryz.ntmps48
  go_wp2_with fail
  refine HS.out.mono ?_
  rintro e w1 ⟨rfl, rfl⟩
  go_wp2_with fail
  refine HPF.out.mono ?_
  rintro e w1 ⟨rfl, rfl⟩
  go_wp2_with fail
  refine HTS.out.mono ?_
  rintro e w1 ⟨rfl, rfl⟩
  go_wp2_with fail
  refine HWD.out.mono ?_
  rintro e w2 ⟨hb2, ⟨u', hu', _⟩ | ⟨_, rfl⟩⟩
  case inl => rw [HWU.out] at hu'; cases hu'
  have HA2 := Lib.hid (HA.out.trans hb2)
  have cE := (HP.out.below hb2).se.c0
  have HE2 := Lib.hid (HP.out.below hb2)
  clear hb2 HA
  go_wp2_with fail
  refine (HSP.out _).mono ?_
  rintro e w3 ⟨rfl, rfl⟩
  obtain ⟨c0, c1, c2, c3, f1, f3⟩ := AB.cells HA2.out.blk
  have hsize := HA2.out.size
  have hwl := HWL.out
  go_wp2_with (at_builtin; refine wpList_append_lies _ rfl (.tmp 69) (.tmp 71) 39 rfl B 22 iU (.int .u32 0) 1 4 Tryz.underlying39 hU1 hU2 hU3 hU4 rfl (by decide) _ _ _ rfl (HA2.out.words.alloc _) _ 1 1 [_] rfl rfl (cell_one_new _ _ _) (fun x hx => by simp at hx; subst hx; rfl) (by decide) (by unfold maxLen; omega) (by omega) (by simp; omega) _ rfl ?_)
  intro g0 cap0 w4 hown4 hgrow4 hat4 hlt4
  have hgr : w2.grownBy w4 wv.ownBlock := (World.grownBy_alloc w2 _ _).trans hgrow4
  have hA4 := HA2.out.word hown4 hgr
  have HA4 := Lib.hid hA4
  have hab4 : AB w4 ab base wv lm qv := (hgr.block ab (Array.getElem?_eq_some_iff.1 HA2.out.blk).1 (own_ne HA2.out.words HA2.out.blk (by decide))).trans HA2.out.blk
  clear hown4 hgrow4 hat4 hlt4 hgr hA4
  obtain ⟨a0, a1, a2, a3, b1, b3⟩ := AB.cells hab4
  clear c0 c1 c2 c3 f1 f3 hab4
  go_wp2_with fail
  go_ret
  exact ⟨rfl, HA4.out.below⟩
set_option maxHeartbeats 2000000 in
set_option maxRecDepth 1000000 in
theorem line_badins {B : Nat} {w0 w : World} {ab : Nat} {base : Int} {wv : Value} {ws : List Int} {lm n : Nat} {D : DataW Unit} {qv : Value} {qs : List (Int × Int × List UInt8)} (h : AsW B w0 w ab base wv ws lm n D qv qs)
    (ad : Nat → Addr) (mz : Int) (hP : PW w ad mz) (i : Int) (s : List UInt8) (hl : s.length ≤ 100) (hs : Lib.hasSuffix s [58] = false) (hp : Lib.hasPrefix s [46, 119, 111, 114, 100] = false) (hlb : labelledB s = none) (hx : (parseB s).2 ≠ 0) :
    Calls Tryz.prog 48 #[.pointer (some ⟨ab, 0, none⟩), .int .i64 i, .string (bsl s)] w fun e w' => e = .returned (errV ad (parseB s).2) ∧ Below B w0 w' := by
  have HS := Lib.hid (suffix_any s hl w)
  rw [hs] at HS
  have HPF := Lib.hid (prefix_any s w)
  rw [hp] at HPF
  have HLB := Lib.hid (labelled_any s hl ad mz w hP)
  have HLN := Lib.hid hlb
  have HPA := Lib.hid (fun W (hW : PW W ad mz) => parse_any s hl ad mz W hW)
  have HV : Hid (errV ad (parseB s).2 = errE ad ((parseB s).2 - 1)) := if_neg hx
  rw [HV.out] at HPA ⊢
  have HP := Lib.hid hP
  have HA := Lib.hid h
  clear h hs hp hlb hx hP HV
  generalize Lib.trimPrefix s [46, 119, 111, 114, 100] = d at *
  generalize Lib.trimSuffix s [58] = ts at *
  generalize (parseB s).2 - 1 = pe at *
  generalize (parseB s).1 = px at *
  go_enter Tryz.func48, Tryz.ntmps48
  go_wp2_with fail
  refine HS.out.mono ?_
  rintro e w1 ⟨rfl, rfl⟩
  go_wp2_with fail
  refine HPF.out.mono ?_
  rintro e w1 ⟨rfl, rfl⟩
  go_wp2_with fail
  refine HLB.out.mono ?_
  rintro e w2 ⟨hb2, ⟨_, rfl⟩ | ⟨l, y, hly, _⟩⟩
  case inr => rw [HLN.out] at hly; cases hly
  have HA2 := Lib.hid (HA.out.trans hb2)
  have HP2 := Lib.hid (HP.out.below hb2)
  clear hb2 HA HP HLB
  unfold notLab
  go_wp2_with fail
  refine (HPA.out _ HP2.out).mono ?_
  rintro e w3 ⟨rfl, hb3⟩
  have HA3 := Lib.hid (HA2.out.trans hb3)
  clear hb3 HA2 HP2 HPA
  go_wp2_with fail
  go_ret
  exact ⟨rfl, HA3.out.below.alloc HA3.out.size _⟩
set_option maxHeartbeats 4000000 in
set_option maxRecDepth 1000000 in
theorem line_badbranch {w0 w : World} {ab : Nat} {base : Int} {wv : Value} {ws : List Int} {lm n : Nat} {D : DataW Unit} {qv : Value} {qs : List (Int × Int × List UInt8)} (h : AsW w0.heap.size w0 w ab base wv ws lm n D qv qs)
    (ad : Nat → Addr) (mz : Int) (hP0 : PW w0 ad mz) (i : Int) (s l y : List UInt8) (hl : s.length ≤ 100) (hs : Lib.hasSuffix s [58] = false) (hp : Lib.hasPrefix s [46, 119, 111, 114, 100] = false) (hlb : labelledB s = some (l, y)) (hx : (parseB l).2 ≠ 0) (hwl : ws.length < 1000) (hql : qs.length < 1000) :
    Calls Tryz.prog 48 #[.pointer (some ⟨ab, 0, none⟩), .int .i64 i, .string (bsl s)] w fun e w' => e = .returned (errV ad (parseB l).2) ∧ Below w0.heap.size w0 w' := by
  have HS := Lib.hid (suffix_any s hl w)
  rw [hs] at HS
  have HPF := Lib.hid (prefix_any s w)
  rw [hp] at HPF
  have hP : PW w ad mz := hP0.below h.below
  have HLB := Lib.hid (labelled_any s hl ad mz w hP)
  have HLN := Lib.hid hlb
  obtain ⟨ll, _, _⟩ := labelled_len hlb
  have HPA := Lib.hid (fun W (hW : PW W ad mz) => parse_any l (Nat.le_trans ll hl) ad mz W hW)
  have HV : Hid (errV ad (parseB l).2 = errE ad ((parseB l).2 - 1)) := if_neg hx
  rw [HV.out] at HPA ⊢
  have HP0 := Lib.hid hP0
  obtain ⟨v', c', hv'⟩ : ∃ v' c', wv = .slice v' ws.length c' := by
    rcases Joins.ownsRow_forms h.words with ⟨rfl, hz⟩ | ⟨g, cap, rfl⟩
    · exact ⟨_, _, by rw [hz]⟩
    · exact ⟨_, _, rfl⟩
  subst hv'
  have HA := Lib.hid h
  have HWL := Lib.hid hwl
  have HQL := Lib.hid hql
  obtain ⟨iU, hU1, hU2, hU3, hU4⟩ := info_parts Tryz.infoU
  obtain ⟨iQ, hQ1, hQ2, hQ3, hQ4⟩ := info_parts Tryz.infoQ
  clear h hs hp hlb hx hP hP0 ll hwl hql HV
  generalize Lib.trimPrefix s [46, 119, 111, 114, 100] = d at *
  generalize Lib.trimSuffix s [58] = ts at *
  generalize (parseB l).2 - 1 = pe at *
  generalize (parseB l).1 = px at *
  go_enter Tryz.func48, Tryz.ntmps48
  go_wp2_with fail
  refine HS.out.mono ?_
  rintro e w1 ⟨rfl, rfl⟩
  go_wp2_with fail
  refine HPF.out.mono ?_
  rintro e w1 ⟨rfl, rfl⟩
  go_wp2_with fail
  refine HLB.out.mono ?_
  rintro e w2 ⟨hb2, ⟨hno, _⟩ | ⟨l', y', hly, rfl⟩⟩
  · rw [HLN.out] at hno; cases hno
  have hly2 := hly
  rw [HLN.out] at hly2
  simp only [Option.some.injEq, Prod.mk.injEq] at hly2
  obtain ⟨rfl, rfl⟩ := hly2
  have HA2 := Lib.hid (HA.out.trans hb2)
  clear hb2 HA HLB hly
  obtain ⟨c0, c1, c2, c3, f1, f3⟩ := AB.cells HA2.out.blk
  have hsize := HA2.out.size
  have hql := HQL.out
  have hwl := HWL.out
  have HAL := HA2.out.trans ((Below.refl w2.heap.size w2).alloc (Nat.le_refl _) (.cells #[.int .i64 i, .int .i64 (ws.length : Int), .string (bsl y)] 97))
  obtain ⟨p0, p1, p2, p3, r1, r3⟩ := AB.cells HAL.blk
  clear HAL
  go_upto_region 19 with fail
  go_region_law (refine step_append_lies _ rfl (.tmp 87) (.tmp 96) 89 rfl w0.heap.size 97 iQ (.agg #[.int .i64 0, .int .i64 0, .string ByteArray.empty]) 3 32 Tryz.underlying89 hQ1 hQ2 hQ3 hQ4 rfl (by decide) _ qs.length (qs.flatMap waitC) rfl (HA2.out.waits.alloc _) _ 1 1 (waitC (i, ((ws.length : Int), y))) rfl rfl (three_news w2 _ _ _ _) (waitC_one _) (by decide) (by unfold maxLen; omega) (by omega) (by simp; omega) _ rfl ?_; intro g cap w6 hown6 hgrow6 hat6 hlt6; obtain ⟨hA6, hAB6⟩ := (by first | exact rest_wait HA2.out hown6 hgrow6 | exact rest_wait HA2.out.drew hown6 hgrow6 : AsW w0.heap.size w0 (w6.setCell ⟨ab, 3, none⟩ (.slice (some ⟨g, 0, none⟩) (qs.length + 1) cap)) ab base (.slice v' ws.length c') ws lm n D (.slice (some ⟨g, 0, none⟩) (qs.length + 1) cap) (qs ++ [(i, ((ws.length : Int), y))]) ∧ AB w6 ab base (.slice v' ws.length c') lm qv); have HA6 := Lib.hid hA6; obtain ⟨a0, a1, a2, a3, b1, b3⟩ := AB.cells hAB6; clear hA6 hAB6 hown6 hgrow6 hat6 hlt6)
  all_goals
    have HP6 := Lib.hid (HP0.out.below HA6.out.below)
    clear a0 a1 a2 a3 b1 b3 c0 c1 c2 c3 f1 f3 p0 p1 p2 p3 r1 r3 hsize
    generalize w6.setCell ⟨ab, 3, none⟩ (.slice (some ⟨g, 0, none⟩) (qs.length + 1) cap) = w7 at *
    go_wp2_with fail
    refine (HPA.out _ HP6.out).mono ?_
    rintro e w3 ⟨rfl, hb3⟩
    have HA3 := Lib.hid (HA6.out.trans hb3)
    clear hb3 HA6 HP6 HPA
    go_wp2_with fail
    go_ret
    exact ⟨rfl, HA3.out.below.alloc HA3.out.size _⟩
end Go.Proofs.YtnppegldebocmaaGreatDoor
namespace Go.Proofs.YtnppegldebocmaaGreatDoor
open Go.RowKit Go.Maps
set_option linter.unusedVariables false
/-- A label that is not there, looked up in whatever world. -/
theorem AsW.lookNo {B : Nat} {w0 w : World} {ab : Nat} {base : Int} {wv : Value} {ws : List Int} {lm n : Nat} {D : DataW Unit} {qv : Value} {qs : List (Int × Int × List UInt8)} (h : AsW B w0 w ab base wv ws lm n D qv qs)
    (y : List UInt8) (hy : y.length ≤ 100) (hh : Maps.has D (.string y) = false) :
    (Instr.lookup 88 (.map (some lm)) (.string (bsl y)) true).run Tryz.prog w = .ok (.tuple #[.int .u32 0, .bool false]) w := by
  obtain ⟨es, clock, hb, F, _, hD⟩ := h.labels
  rcases Maps.fit_look true mapLaw Tryz.underlying88 (zeroE32 w) hb F (key_of y hy) with ⟨hrun, _, hat⟩ | ⟨e0, z, _, _, hrun, hRv, hat, hhas⟩
  · simpa using hrun
  · rw [← hD] at hat
    have h1 := Maps.atKey_of_not_has hh (.lit (.bool true))
    have h2 := Maps.atKey_of_not_has hh (.lit (.bool false))
    rw [hat] at h1 h2
    rw [h1] at h2
    cases h2
set_option maxHeartbeats 4000000 in
set_option maxRecDepth 1000000 in
theorem settle_none {w0 w : World} {ab : Nat} {base : Int} {wv : Value} {ws : List Int} {lm n : Nat} {D : DataW Unit} {qv : Value} {qs : List (Int × Int × List UInt8)} (h : AsW w0.heap.size w0 w ab base wv ws lm n D qv qs)
    (ad : Nat → Addr) (mz : Int) (hP0 : PW w0 ad mz) (line : Int) (k : Nat) (y : List UInt8) (hy : y.length ≤ 100)     (hh : Maps.has D (.string y) = false) :
    Calls Tryz.prog 49 #[.pointer (some ⟨ab, 0, none⟩), .agg #[.int .i64 line, .int .i64 (k : Int), .string (bsl y)]] w fun e w' => e = .returned (errE ad 5) ∧ Below w.heap.size w w' := by
  have hal := (Below.refl w.heap.size w).alloc (Nat.le_refl _) (.cells #[.int .i64 line, .int .i64 (k : Int), .string (bsl y)] 97)
  have HA := Lib.hid (h.trans hal)
  have HAL := Lib.hid hal
  have hq : (w.alloc (.cells #[.int .i64 line, .int .i64 (k : Int), .string (bsl y)] 97)).heap[w.heap.size]? = some (.cells #[.int .i64 line, .int .i64 (k : Int), .string (bsl y)] 97 (0, 0)) := heap_alloc_new _ _
  have q0 : (w.alloc (.cells #[.int .i64 line, .int .i64 (k : Int), .string (bsl y)] 97)).cell? ⟨w.heap.size, 0, none⟩ = some (.int .i64 line) := by unfold World.cell?; rw [hq]; rfl
  have q1 : (w.alloc (.cells #[.int .i64 line, .int .i64 (k : Int), .string (bsl y)] 97)).cell? ⟨w.heap.size, 1, none⟩ = some (.int .i64 (k : Int)) := by unfold World.cell?; rw [hq]; rfl
  have q2 : (w.alloc (.cells #[.int .i64 line, .int .i64 (k : Int), .string (bsl y)] 97)).cell? ⟨w.heap.size, 2, none⟩ = some (.string (bsl y)) := by unfold World.cell?; rw [hq]; rfl
  have HQ := Lib.hid hq
  have HP0 := Lib.hid hP0
  have hlk : ∀ j : Nat, (Instr.lookup 88 (.map (some lm)) (.string (bsl y)) true).run Tryz.prog ((w.alloc (.cells #[.int .i64 line, .int .i64 (k : Int), .string (bsl y)] 97)).drewN j) = .ok (.tuple #[.int .u32 0, .bool false]) ((w.alloc (.cells #[.int .i64 line, .int .i64 (k : Int), .string (bsl y)] 97)).drewN j) := fun j => (HA.out.trans (bdrewN (Below.refl _ _) j)).lookNo y hy hh
  have hlk1 : (Instr.lookup 88 (.map (some lm)) (.string (bsl y)) true).run Tryz.prog ((w.alloc (.cells #[.int .i64 line, .int .i64 (k : Int), .string (bsl y)] 97)).drew) = .ok (.tuple #[.int .u32 0, .bool false]) ((w.alloc (.cells #[.int .i64 line, .int .i64 (k : Int), .string (bsl y)] 97)).drew) := (HA.out.drew).lookNo y hy hh
  obtain ⟨c0, c1, c2, c3, f1, f3⟩ := AB.cells HA.out.blk
  have cE := (HP0.out.below HA.out.below).se.c5
  clear h hal hh hP0 hq
  go_enter Tryz.func49, Tryz.ntmps49
  go_upto_region 1 with fail
  generalize w.alloc (.cells #[.int .i64 line, .int .i64 (k : Int), .string (bsl y)] 97) = wa at *
  go_region
  go_wp2_with fail
  go_ret
  exact ⟨rfl, HAL.out.drew⟩
set_option maxHeartbeats 4000000 in
set_option maxRecDepth 1000000 in
theorem settle_far {w0 w : World} {ab : Nat} {base : Int} {wv : Value} {ws : List Int} {lm n : Nat} {D : DataW Unit} {qv : Value} {qs : List (Int × Int × List UInt8)} (h : AsW w0.heap.size w0 w ab base wv ws lm n D qv qs)
    (ad : Nat → Addr) (mz : Int) (hP0 : PW w0 ad mz) (line : Int) (k : Nat) (y : List UInt8) (hy : y.length ≤ 100) (tz : Int) (hk : k < ws.length) (hwl : ws.length < 1000) (z : Int) (hz : ws[k] = z) (hzz : 0 ≤ z ∧ z < 4294967296)
    (hh : Maps.has D (.string y) = true) (ht : D.atKey (.string y) (.lit (.int .u32 0)) = .lit (.int .u32 tz)) (hb0 : 0 ≤ base) (hb1 : base < 4294967296) (ht0 : 0 ≤ tz) (ht1 : tz < 4294967296)
    (hx : brNew base tz k (decZ z) = none) :
    Calls Tryz.prog 49 #[.pointer (some ⟨ab, 0, none⟩), .agg #[.int .i64 line, .int .i64 (k : Int), .string (bsl y)]] w fun e w' => e = .returned (errE ad 9) ∧ Below w.heap.size w w' := by
  have hal := (Below.refl w.heap.size w).alloc (Nat.le_refl _) (.cells #[.int .i64 line, .int .i64 (k : Int), .string (bsl y)] 97)
  have HA := Lib.hid (h.trans hal)
  have HAL := Lib.hid hal
  have hq : (w.alloc (.cells #[.int .i64 line, .int .i64 (k : Int), .string (bsl y)] 97)).heap[w.heap.size]? = some (.cells #[.int .i64 line, .int .i64 (k : Int), .string (bsl y)] 97 (0, 0)) := heap_alloc_new _ _
  have q0 : (w.alloc (.cells #[.int .i64 line, .int .i64 (k : Int), .string (bsl y)] 97)).cell? ⟨w.heap.size, 0, none⟩ = some (.int .i64 line) := by unfold World.cell?; rw [hq]; rfl
  have q1 : (w.alloc (.cells #[.int .i64 line, .int .i64 (k : Int), .string (bsl y)] 97)).cell? ⟨w.heap.size, 1, none⟩ = some (.int .i64 (k : Int)) := by unfold World.cell?; rw [hq]; rfl
  have q2 : (w.alloc (.cells #[.int .i64 line, .int .i64 (k : Int), .string (bsl y)] 97)).cell? ⟨w.heap.size, 2, none⟩ = some (.string (bsl y)) := by unfold World.cell?; rw [hq]; rfl
  have HQ := Lib.hid hq
  obtain ⟨g, cap, rfl⟩ := Joins.ownsRow_form h.words (by omega)
  have HP0 := Lib.hid hP0
  have HZ := Lib.hid hz
  have HX := Lib.hid hx
  have HZB := Lib.hid hzz
  have hlk : ∀ j : Nat, (Instr.lookup 88 (.map (some lm)) (.string (bsl y)) true).run Tryz.prog ((w.alloc (.cells #[.int .i64 line, .int .i64 (k : Int), .string (bsl y)] 97)).drewN j) = .ok (.tuple #[.int .u32 tz, .bool true]) ((w.alloc (.cells #[.int .i64 line, .int .i64 (k : Int), .string (bsl y)] 97)).drewN j) := fun j => (HA.out.trans (bdrewN (Below.refl _ _) j)).look y hy tz hh ht
  have hlk1 : (Instr.lookup 88 (.map (some lm)) (.string (bsl y)) true).run Tryz.prog ((w.alloc (.cells #[.int .i64 line, .int .i64 (k : Int), .string (bsl y)] 97)).drew) = .ok (.tuple #[.int .u32 tz, .bool true]) ((w.alloc (.cells #[.int .i64 line, .int .i64 (k : Int), .string (bsl y)] 97)).drew) := (HA.out.drew).look y hy tz hh ht
  obtain ⟨c0, c1, c2, c3, f1, f3⟩ := AB.cells HA.out.blk
  clear h hal hh ht hP0 hq hz hzz hx
  go_enter Tryz.func49, Tryz.ntmps49
  go_upto_region 1 with fail
  generalize w.alloc (.cells #[.int .i64 line, .int .i64 (k : Int), .string (bsl y)] 97) = wa at *
  go_region
  have hgk : wa.cell? ⟨g, k, none⟩ = some (.int .u32 z) := by
    have := HA.out.words.cells rfl k (.int .u32 z) (by rw [List.getElem?_map, List.getElem?_eq_getElem hk, HZ.out]; rfl)
    have ha : (⟨g, 0, none⟩ : Addr).add k = ⟨g, k, none⟩ := by
      unfold Addr.add
      cases k <;> simp
    rw [ha] at this
    exact this
  clear hlk hlk1
  have HQ1 := Lib.hid q1
  have HGK := Lib.hid hgk
  have HBN := Lib.hid (fun n : Nat => (bdrewN (Below.refl wa.heap.size wa) n).alloc (Nat.le_refl _) (.cells #[.int .i64 0, .int .i64 0, .int .i64 0, .int .i64 0, .int .u32 0] 24))
  have k1 : ∀ n : Nat, ((wa.drewN n).alloc (.cells #[.int .i64 0, .int .i64 0, .int .i64 0, .int .i64 0, .int .u32 0] 24)).cell? ⟨ab, 1, none⟩ = some (.slice (some ⟨g, 0, none⟩) ws.length cap) := fun n => (AB.cells (HA.out.trans (HBN.out n)).blk).2.1
  have k2 : ∀ n : Nat, ((wa.drewN n).alloc (.cells #[.int .i64 0, .int .i64 0, .int .i64 0, .int .i64 0, .int .u32 0] 24)).cell? ⟨w.heap.size, 1, none⟩ = some (.int .i64 (k : Int)) := fun n => ((HBN.out n).cell (World.block_lt_of_cell? _ _ q1)).trans q1
  have k3 : ∀ n : Nat, ((wa.drewN n).alloc (.cells #[.int .i64 0, .int .i64 0, .int .i64 0, .int .i64 0, .int .u32 0] 24)).cell? ⟨g, k, none⟩ = some (.int .u32 z) := fun n => ((HBN.out n).cell (World.block_lt_of_cell? _ _ hgk)).trans hgk
  go_upto_region 4 with fail
  go_quiet (fail)
  go_upto_region 5 with fail
  have HDC := Lib.hid (fun W => decode_any z HZB.out.1 HZB.out.2 W)
  generalize hyd : decZ z = yd at *
  generalize hbh : ((base + 4 * (k : Int)) % 4294967296 + 4) % 4294967296 = bh at *
  have HBH := Lib.hid hbh
  have HYD := Lib.hid hyd
  clear hbh hyd
  go_cut [8] from 24 to 43 (fun s8 wx => ∃ bx : Nat, s8 = .pointer (some ⟨bx, 0, none⟩) ∧ Hid (InsAt wx bx yd ∧ wa.heap.size ≤ bx) ∧ Hid (Below wa.heap.size wa wx))
  case first =>
    go_region_with (go_at_call 14; refine (HDC.out _).mono ?_; rintro e w3 ⟨rfl, hb3⟩; try (have zF : Five w3 wa.heap.size 24 (.int .i64 0) (.int .i64 0) (.int .i64 0) (.int .i64 0) (.int .u32 0) := (Five.new (wa.drewN (1 + nq + 1)) (.int .i64 0) (.int .i64 0) (.int .i64 0) (.int .i64 0) (.int .u32 0) 24).below hb3 (by simp); obtain ⟨z0, z1, z2, z3, z4⟩ := Five.cells zF; obtain ⟨y0, y1, y2, y3, y4⟩ := Five.free zF))
    all_goals
      go_wp2
      go_meet
      first
      | exact ⟨_, rfl, ⟨Five.fill zF _ _ _ _ _, Nat.le_refl _⟩, below_fill ((HBN.out _).trans (hb3.mono (HBN.out _).size)) (Nat.le_refl _) _ _ _ _ _⟩
      | exact ⟨_, rfl, ⟨Five.new w3 _ _ _ _ _ _, hb3.size⟩, ((bdrewN (Below.refl wa.heap.size wa) _).trans hb3).alloc hb3.size _⟩
  case rest =>
    obtain ⟨bx, rfl, HIX, HBX⟩ := hcut
    rename World => wk
    have HAX := Lib.hid (HA.out.trans HBX.out)
    have hq1 : wk.cell? ⟨w.heap.size, 1, none⟩ = some (.int .i64 (k : Int)) := (HBX.out.cell (World.block_lt_of_cell? _ _ q1)).trans q1
    obtain ⟨x0, x1, x2, x3, x4⟩ := Five.cells HIX.out.1
    have HFD := Lib.hid (fun W => fields_any yd.op W)
    clear k1 k2 k3 c0 c1 c2 c3 f1 f3 q0 q1 q2 hgk
    go_wp2_with fail
    refine (HFD.out _).mono ?_
    rintro e w4 ⟨rfl, hb4⟩
    have HB4 := Lib.hid (HBX.out.trans (hb4.mono HBX.out.size))
    have HI4 := Lib.hid (Five.below HIX.out.1 hb4 (Five.lt HIX.out.1))
    have HA4 := Lib.hid (HA.out.trans HB4.out)
    clear hb4 HAX hq1 x0 x1 x2 x3 x4 HFD
    have hxo := HX.out
    unfold brNew at hxo
    rw [HBH.out] at hxo
    have HE4 := Lib.hid (HP0.out.below HA4.out.below)
    have cE := HE4.out.se.c9
    by_cases hj : fieldsB yd.op.toNat = [106]
    · rw [if_pos hj] at hxo
      have hnj : ((fieldsS yd.op).toList == [106]) = true := by
        rw [show fieldsS yd.op = bsl (fieldsB yd.op.toNat) from rfl, bsl_l2, hj]; rfl
      split at hxo
      case isTrue => cases hxo
      next hhi =>
      clear hxo hj
      obtain ⟨fs, hfs⟩ : ∃ fs, fieldsS yd.op = fs := ⟨_, rfl⟩
      rw [hfs] at hnj ⊢
      clear hfs
      go_wp2_with fail
      go_ret
      exact ⟨rfl, HAL.out.trans (HB4.out.mono HAL.out.size)⟩
    · rw [if_neg hj] at hxo
      have hnj : ((fieldsS yd.op).toList == [106]) = false := by
        rw [show fieldsS yd.op = bsl (fieldsB yd.op.toNat) from rfl, bsl_l2]
        exact beq_eq_false_iff_ne.2 hj
      split at hxo
      case isFalse => cases hxo
      next hdd =>
      obtain ⟨dz, hdz⟩ : ∃ dz, wrap64 ((wrap64 (wrap32 ((tz - bh) % 4294967296))).tdiv 4) = dz := ⟨_, rfl⟩
      rw [hdz] at hdd
      have HDZ := Lib.hid hdz
      clear hxo hj hdz
      obtain ⟨fs, hfs⟩ : ∃ fs, fieldsS yd.op = fs := ⟨_, rfl⟩
      rw [hfs] at hnj ⊢
      clear hfs
      go_upto_region 11 with fail
      rw [HDZ.out]
      rcases hdd with hd1 | hd2
      · go_wp2_with fail
        go_ret
        exact ⟨rfl, HAL.out.trans (HB4.out.mono HAL.out.size)⟩
      · have hd1 : ¬ dz < -32768 := by go_light; omega
        go_wp2_with fail
        go_ret
        exact ⟨rfl, HAL.out.trans (HB4.out.mono HAL.out.size)⟩
end Go.Proofs.YtnppegldebocmaaGreatDoor
namespace Go.Proofs.YtnppegldebocmaaGreatDoor
open Go.RowKit Go.Maps
set_option linter.unusedVariables false
/-- A line that is wrong. -/
theorem line_wrong {w0 w : World} {ab : Nat} {base : Int} {wv : Value} {lm n : Nat} {qv : Value} (st : StE) (h : AsW w0.heap.size w0 w ab base wv st.1.1 lm n (labsD st.1.2) qv st.2)
    (ad : Nat → Addr) (mz : Int) (hP0 : PW w0 ad mz) (i : Int) (s : List UInt8) (hl : s.length ≤ 100) (hw : st.1.1.length < 1000) (hq : st.2.length < 1000) (k : Nat) (hst : stepE base i st s = .error k) :
    Calls Tryz.prog 48 #[.pointer (some ⟨ab, 0, none⟩), .int .i64 i, .string (bsl s)] w fun e w' => e = .returned (errE ad (k - 1)) ∧ Below w0.heap.size w0 w' := by
  have hP := hP0.below h.below
  have hts := trimSuf_len s [58]
  have htp := trimPre_len s [46, 119, 111, 114, 100]
  have htp2 := trimPre_len (Lib.trimPrefix s [46, 119, 111, 114, 100]) [32]
  unfold stepE at hst
  split at hst
  · next hs =>
    split at hst
    · next hlb =>
      split at hst
      · next hf =>
        cases hst
        have hk := known_labs (Lib.trimSuffix s [58]) st.1.2
        obtain ⟨tz, htz⟩ := Option.isSome_iff_exists.1 hf
        exact line_exists h ad mz hP i s _ hl hs rfl (by omega) hlb tz (hk.has.trans hf) (hk.val tz htz)
      · cases hst
    · next hlb =>
      cases hst
      exact line_nolabel h ad mz hP i s _ hl hs rfl (by omega) (by simpa using hlb)
  · next hs =>
    have hsf : Lib.hasSuffix s [58] = false := by simpa using hs
    split at hst
    · next hp =>
      split at hst
      · cases hst
      · next hw2 =>
        cases hst
        unfold wordLine at hw2
        split at hw2
        · next hsp => exact line_noword h ad mz hP i s _ hl hsf hp rfl (by omega) hsp hw2 hw
        · next hsp => exact line_nospace h ad mz hP i s _ hl hsf hp rfl (by omega) (by simpa using hsp) hw
    · next hp =>
      have hpf : Lib.hasPrefix s [46, 119, 111, 114, 100] = false := by simpa using hp
      split at hst
      · next l y hly =>
        split at hst
        · cases hst
        · next h0 =>
          cases hst
          have := line_badbranch h ad mz hP0 i s l y hl hsf hpf hly h0 hw hq
          rw [show errV ad (parseB l).2 = errE ad ((parseB l).2 - 1) from if_neg h0] at this
          exact this
      · next hly =>
        split at hst
        · cases hst
        · next h0 =>
          cases hst
          have := line_badins h ad mz hP i s hl hsf hpf hly h0
          rw [show errV ad (parseB s).2 = errE ad ((parseB s).2 - 1) from if_neg h0] at this
          exact this
def runE (base : Int) (i : Int) (L : List (List UInt8)) (st : StE) : Except (Int × Nat) (List Int) := match goodE base i L st with
  | .error e => .error e
  | .ok r => settleE base r.1.2 r.2 r.1.1
theorem runE_cons (base i : Int) (s : List UInt8) (L : List (List UInt8)) (st : StE) : runE base i (s :: L) st = match stepE base i st s with
    | .error k => .error (i, k)
    | .ok st' => runE base (i + 1) L st' := by
  unfold runE
  simp only [goodE]
  cases stepE base i st s <;> rfl
theorem stepE_len {base i : Int} {st st' : StE} {s : List UInt8} (h : stepE base i st s = .ok st') : st'.1.1.length ≤ st.1.1.length + 1 ∧ st'.2.length ≤ st.2.length + 1 := stepQ_len (stepE_ok h)
/-- What assembling ends with. -/
def AsmEnd (ad : Nat → Addr) (w : World) (fin : Except (Int × Nat) (List Int)) (e : Ending) (w' : World) : Prop :=
  Below w.heap.size w w' ∧ ((∃ r wv, fin = .ok r ∧ e = .returned (.tuple #[wv, .nilIface]) ∧ w'.ownsRow w.heap.size 22 1 wv r.length (r.map (.int .u32)) ∧ r.length ≤ 200)
    ∨ (∃ i k b, fin = .error (i, k) ∧ e = .returned (.tuple #[.slice none 0 0, .iface 93 (.pointer (some ⟨b, 0, none⟩))]) ∧ w'.heap[b]? = some (.cells #[.int .i64 i, errE ad (k - 1)] 95 (0, 0))))
set_option maxHeartbeats 2000000 in
set_option maxRecDepth 1000000 in
theorem assemble_any (L : List (List UInt8)) (hL : L.length ≤ 200) (hlen : ∀ s ∈ L, s.length ≤ 100) (base : Int) (hb0 : 0 ≤ base) (hb1 : base < 4294967296) (hb4 : base % 4 = 0) (fin : Except (Int × Nat) (List Int)) (hg : runE base 0 L (([], []), []) = fin)
    (ad : Nat → Addr) (mz : Int) (w : World) (hP : PW w ad mz) (B0 : Nat) (v : Value) (hv : w.ownsRow B0 9 1 v L.length (L.map fun s => .string (bsl s))) :
    Calls Tryz.prog 16 #[v, .int .u32 base] w fun e w' => AsmEnd ad w fin e w' := by
  obtain ⟨v', c', hv'⟩ : ∃ v' c', v = .slice v' L.length c' := by
    rcases Joins.ownsRow_forms hv with ⟨rfl, hz⟩ | ⟨g, cap, rfl⟩
    · exact ⟨_, _, by rw [hz]⟩
    · exact ⟨_, _, rfl⟩
  subst hv'
  have HV := Lib.hid hv
  have HP := Lib.hid hP
  have HLEN := Lib.hid hlen
  have HG := Lib.hid hg
  have hmm := @run_makeMap Tryz.prog
  have hbt : base.tmod 4 = 0 := by rw [Int.tmod_eq_emod_of_nonneg hb0]; exact hb4
  have hlz : ¬ (200 : Int) < (L.length : Int) := by omega
  clear hv hP hlen hg
  go_enter Tryz.func16, Tryz.ntmps16
  go_wp2_with fail
  have hA0 : AsW w.heap.size w ((w.alloc (.map #[] 0)).alloc (.cells #[.int .u32 base, .slice none 0 0, .map (some w.heap.size), .slice none 0 0] 91)) (w.heap.size + 1) base (.slice none 0 0) [] w.heap.size 0 (.map []) (.slice none 0 0) [] := by
    have hz : (w.alloc (.map #[] 0)).heap.size = w.heap.size + 1 := by simp
    refine ⟨?_, World.ownsRow_nil _ _ _ _, World.ownsRow_nil _ _ _ _, (World.ownsMap_made w _ _ _).alloc _, ((Below.refl _ _).alloc (Nat.le_refl _) _).alloc (by simp) _, Nat.le_succ _, Nat.le_refl _, by simp; omega⟩
    have := heap_alloc_new (w.alloc (.map #[] 0)) (.cells #[.int .u32 base, .slice none 0 0, .map (some w.heap.size), .slice none 0 0] 91)
    rw [hz] at this
    exact this
  have HA0 := Lib.hid hA0
  clear hA0 hmm hbt
  generalize (w.alloc (.map #[] 0)).alloc (.cells #[.int .u32 base, .slice none 0 0, .map (some w.heap.size), .slice none 0 0] 91) = w2 at *
  go_loopw [29] (fun kv wr => ∃ (j : Nat) (st : StE) (wv qv : Value) (n : Nat), j ≤ L.length ∧ n ≤ j ∧ st.1.1.length ≤ j ∧ st.2.length ≤ j ∧ kv = .int .i64 (j : Int) ∧ Hid (runE base (j : Int) (L.drop j) st = fin) ∧ Hid ((∀ q ∈ st.2, WaitOK st.1.1 q) ∧ (∀ x ∈ st.1.2, 0 ≤ x.2 ∧ x.2 < 4294967296)) ∧ Hid (AsW w.heap.size w wr (w.heap.size + 1) base wv st.1.1 w.heap.size n (labsD st.1.2) qv st.2)) (fun kv _ => L.length - (intOf kv).toNat)
  case atStart => exact ⟨0, (([], []), []), _, _, 0, Nat.zero_le _, Nat.le_refl _, Nat.le_refl _, Nat.le_refl _, rfl, HG, ⟨fun q hq => (by cases hq), fun x hx => (by cases hx)⟩, HA0⟩
  case round =>
    obtain ⟨j, st, wv, qv, n, hj, hnj, hsj, hqj, rfl, HGJ, HKJ, HAJ⟩ := hrel
    by_cases hlt : j < L.length
    · obtain ⟨g, cap, hvf⟩ := Joins.ownsRow_form HV.out (by go_light; omega)
      have hcell : w.cell? ⟨g, j, none⟩ = some (.string (bsl L[j])) := by
        have := HV.out.cells (show (Value.slice v' L.length c').ownBlock = some g by rw [hvf]; rfl) j (.string (bsl L[j])) (by rw [List.getElem?_map, List.getElem?_eq_getElem hlt]; rfl)
        rw [addr_add] at this
        exact this
      have hgl : g < w.heap.size := (HV.out.lt g (by rw [hvf]; rfl)).2
      simp only [Value.slice.injEq] at hvf
      obtain ⟨hv1, _, rfl⟩ := hvf
      subst hv1
      have hcr : wr.cell? ⟨g, j, none⟩ = some (.string (bsl L[j])) := (HAJ.out.below.cell (by exact hgl)).trans hcell
      have hd : L.drop j = L[j] :: L.drop (j + 1) := List.drop_eq_getElem_cons hlt
      have hgj := HGJ.out
      rw [hd, runE_cons] at hgj
      have hsl : L[j].length ≤ 100 := HLEN.out _ (List.getElem_mem hlt)
      have hjl : (j : Int) < (L.length : Int) := by go_light; omega
      generalize L[j] = sj at *
      cases hs : stepE base (j : Int) st sj with
      | error k =>
        rw [hs] at hgj
        have HLI := Lib.hid (line_wrong st HAJ.out ad mz HP.out (j : Int) sj hsl (by go_light; omega) (by go_light; omega) k hs)
        have HFIN := Lib.hid hgj
        clear hcell hd hgj hsl hgl hs
        go_wp2_with fail
        refine HLI.out.mono ?_
        rintro e w3 ⟨rfl, hb3⟩
        have HB3 := Lib.hid hb3
        clear hb3
        go_wp2_with fail
        exact bodyPost_ret (v := .tuple #[.slice none 0 0, .iface 93 (.pointer (some ⟨w3.heap.size, 0, none⟩))]) (by simp [results, Tryz.results16, go_sem]) rfl ⟨HB3.out.alloc HB3.out.size _, Or.inr ⟨(j : Int), k, w3.heap.size, HFIN.out.symm, rfl, heap_alloc_new w3 _⟩⟩
      | ok st' =>
        rw [hs] at hgj
        have HLI := Lib.hid (lineq_good (asQ st) (asQ st') HAJ.out ad mz HP.out (j : Int) sj hsl (by go_light; omega) (by show st.1.1.length < 1000; go_light; omega) (by show st.2.length < 1000; go_light; omega) (stepE_ok hs))
        have HS2 := Lib.hid (stepE_len hs)
        have HK2 := Lib.hid (stepE_keeps hs hsl HKJ.out.1 HKJ.out.2)
        have HG2 : Hid (runE base ((j + 1 : Nat) : Int) (L.drop (j + 1)) st' = fin) := by show _ = _; rw [← hgj]; congr 1
        clear hcell hd hgj hsl hgl hs
        go_wp2_with fail
        refine HLI.out.mono ?_
        rintro e w3 ⟨rfl, wv', qv', n', hn', hA3⟩
        have HA3 := Lib.hid hA3
        clear hA3
        go_wp2_with fail
        go_roundw
        case rel => exact ⟨j + 1, st', wv', qv', n', hlt, by go_light; omega, by have := HS2.out.1; go_light; omega, by have := HS2.out.2; go_light; omega, by go_num, HG2, HK2, HA3⟩
        case measure => go_light; simp [intOf]; omega
    · have hje : j = L.length := by go_light; omega
      subst hje
      have hgj := HGJ.out
      rw [List.drop_length] at hgj
      have HSET : Hid (settleE base st.1.2 (st.2.drop 0) st.1.1 = fin) := hgj
      have HAJ2 := HAJ
      obtain ⟨c0, c1, c2, c3, f1, f3⟩ := AB.cells HAJ.out.blk
      obtain ⟨q', qc', hq'⟩ : ∃ q' qc', qv = .slice q' st.2.length qc' := by
        rcases Joins.ownsRow_forms HAJ.out.waits with ⟨rfl, hz⟩ | ⟨g, cap, rfl⟩
        · exact ⟨_, _, by rw [hz]⟩
        · exact ⟨_, _, rfl⟩
      subst hq'
      clear hlt hgj
      go_wp2_with fail
      go_loopw [51] (fun kv wx => ∃ (k : Nat) (ws' : List Int), k ≤ st.2.length ∧ ws'.length ≤ 200 ∧ kv = .int .i64 (k : Int) ∧ Hid (settleE base st.1.2 (st.2.drop k) ws' = fin) ∧ Hid (∀ q ∈ st.2, WaitOK ws' q) ∧ Hid (AsW w.heap.size w wx (w.heap.size + 1) base wv ws' w.heap.size n (labsD st.1.2) (.slice q' st.2.length qc') st.2)) (fun kv _ => st.2.length - (intOf kv).toNat)
      case atStart => exact ⟨0, st.1.1, Nat.zero_le _, by go_light; omega, rfl, HSET, HKJ.out.1, HAJ2⟩
      case round =>
        obtain ⟨k, ws', hk, hwl, rfl, HSJ, HWO, HAK⟩ := hrel
        by_cases hlt : k < st.2.length
        · obtain ⟨g, cap, hvf⟩ := Joins.ownsRow_form HAK.out.waits (by go_light; omega)
          obtain ⟨t0, t1, t2⟩ := flat3 st.2 k hlt
          have hca := HAK.out.waits.cells (show (Value.slice q' st.2.length qc').ownBlock = some g by rw [hvf]; rfl)
          have hd : st.2.drop k = st.2[k] :: st.2.drop (k + 1) := List.drop_eq_getElem_cons hlt
          have hsj := HSJ.out
          rw [hd] at hsj
          have hc0 := hca _ _ t0
          have hc1 := hca _ _ t1
          have hc2 := hca _ _ t2
          rw [addr_add] at hc0 hc1 hc2
          simp only [Value.slice.injEq] at hvf
          obtain ⟨hv1, _, rfl⟩ := hvf
          subst hv1
          have hkl : (k : Int) < (st.2.length : Int) := by go_light; omega
          obtain ⟨at', x, hat, hq1, ⟨z0, z1⟩, hdz, hxg, hxf, hxb, hyl⟩ := (HWO.out _ (List.getElem_mem hlt)).range
          generalize st.2[k] = q at *
          obtain ⟨li, qa, qn⟩ := q
          simp only at hq1 hyl hc0 hc1 hc2
          subst hq1
          have hal := (Below.refl wr.heap.size wr).alloc (Nat.le_refl _) (.cells #[.int .i64 li, .int .i64 (at' : Int), .string (bsl qn)] 97)
          have hAL := HAK.out.trans hal
          have HAL2 := Lib.hid hAL
          have hkn := known_labs qn st.1.2
          simp only [settleE, Int.toNat_natCast] at hsj
          rw [List.getD_eq_getElem?_getD, List.getElem?_eq_getElem hat, Option.getD_some, hdz] at hsj
          clear hca t0 t1 t2 hd hal
          cases hfn : findL qn st.1.2 with
          | none =>
            rw [hfn] at hsj hkn
            have HST := Lib.hid (settle_none hAL ad mz HP.out li at' qn hyl hkn.has)
            have HFIN := Lib.hid hsj
            clear hsj hkn hAL
            go_wp2_with fail
            refine HST.out.mono ?_
            rintro e w3 ⟨rfl, hb3⟩
            have HB3 := Lib.hid ((HAL2.out.trans hb3).below)
            have q0 : w3.cell? ⟨wr.heap.size, 0, none⟩ = some (.int .i64 li) := (hb3.cell (by simp)).trans (by simp)
            clear hb3
            go_upto_region 18 with fail
            go_region_with fail
            all_goals
              go_wp2
              exact bodyPost_ret (v := .tuple #[.slice none 0 0, .iface 93 (.pointer (some ⟨w3.heap.size, 0, none⟩))]) (by simp [results, Tryz.results16, go_sem]) rfl ⟨(HB3.out.alloc HB3.out.size _).drew, Or.inr ⟨li, 6, w3.heap.size, HFIN.out.symm, rfl, heap_alloc_new w3 _⟩⟩
          | some tz =>
            rw [hfn] at hsj hkn
            simp only at hsj
            obtain ⟨tz0, tz1⟩ := findL_range HKJ.out.2 hfn
            have hhas : Maps.has (labsD st.1.2) (.string qn) = true := hkn.has
            have hval := hkn.val tz rfl
            have hdz2 : decZ ws'[at'] = x := hdz
            cases hbn : brNew base tz at' x with
            | none =>
              rw [hbn] at hsj
              have HST := Lib.hid (settle_far hAL ad mz HP.out li at' qn hyl tz hat (by go_light; omega) _ rfl ⟨z0, z1⟩ hhas hval hb0 hb1 tz0 tz1 (by rw [hdz2]; exact hbn))
              have HFIN := Lib.hid hsj
              clear hsj hkn hAL hbn
              go_wp2_with fail
              refine HST.out.mono ?_
              rintro e w3 ⟨rfl, hb3⟩
              have HB3 := Lib.hid ((HAL2.out.trans hb3).below)
              have q0 : w3.cell? ⟨wr.heap.size, 0, none⟩ = some (.int .i64 li) := (hb3.cell (by simp)).trans (by simp)
              clear hb3
              go_upto_region 18 with fail
              go_region_with fail
              all_goals
                go_wp2
                exact bodyPost_ret (v := .tuple #[.slice none 0 0, .iface 93 (.pointer (some ⟨w3.heap.size, 0, none⟩))]) (by simp [results, Tryz.results16, go_sem]) rfl ⟨(HB3.out.alloc HB3.out.size _).drew, Or.inr ⟨li, 10, w3.heap.size, HFIN.out.symm, rfl, heap_alloc_new w3 _⟩⟩
            | some x' =>
              rw [hbn] at hsj
              obtain ⟨xg, xf, xb⟩ := brNew_good hbn hxg hxf hxb tz0 tz1
              have HST := Lib.hid (settle_any hAL ad mz HP.out li at' qn hyl tz hat (by go_light; omega) _ rfl ⟨z0, z1⟩ hhas hval hb0 hb1 tz0 tz1 x' (by rw [hdz2]; exact hbn) xf xg)
              have HSJ2 := Lib.hid hsj
              have HWO2 := Lib.hid (fun q hq => (HWO.out q hq).set at' x' xg xf xb)
              clear hsj hkn hAL hbn
              go_wp2_with fail
              refine HST.out.mono ?_
              rintro e w3 ⟨rfl, hA3⟩
              have HA3 := Lib.hid hA3
              clear hA3 HST hc0 hc1 hc2
              go_wp2_with fail
              go_roundw
              case rel => exact ⟨k + 1, _, hlt, by rw [List.length_set]; exact hwl, by go_num, HSJ2, HWO2, HA3⟩
              case measure => go_light; simp [intOf]; omega
        · have hke : k = st.2.length := by go_light; omega
          subst hke
          have hsj := HSJ.out
          rw [List.drop_length] at hsj
          obtain ⟨d0, d1, d2, d3, g1, g3⟩ := AB.cells HAK.out.blk
          clear hlt
          go_wp2_with fail
          exact bodyPost_ret (v := .tuple #[wv, .nilIface]) (by simp [results, Tryz.results16, go_sem]) rfl ⟨HAK.out.below, Or.inl ⟨ws', wv, hsj.symm, rfl, HAK.out.words, hwl⟩⟩
end Go.Proofs.YtnppegldebocmaaGreatDoor
