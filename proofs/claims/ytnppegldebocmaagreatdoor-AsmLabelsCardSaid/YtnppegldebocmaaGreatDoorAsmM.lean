/- The walk of (*assembler).line at a label. Conditions: as each theorem states. The walk of (*assembler).line at a word and at an instruction. Conditions: as each theorem states. A line that is well, whichever it is; lines one behind the other. Conditions: as each theorem states. The walk of asm.Assemble over lines that are well and wait for no label. Conditions: as each theorem states. -/
import Derived.Test.YtnppegldebocmaaGreatDoorAsmW
import Derived.Deep.CutBlock
import Derived.Deep.RegionWith
import Derived.Test.YtnppegldebocmaaGreatDoorParse
namespace Go.Proofs.YtnppegldebocmaaGreatDoor
open Go.RowKit Go.Maps
set_option linter.unusedVariables false
theorem key_of (nm : List UInt8) (h : nm.length ≤ 100) : keyOf Tryz.prog 9 (.string (bsl nm)) = some (.string nm) := by
  have := Go.WideMaps.keyOf_string_mk (P := Tryz.prog) Tryz.underlying9 (s := bsl nm) (by rw [bsl_size]; unfold maxLen; omega)
  rw [this, bsl_data]
theorem here_wf (base : Int) (k : Nat) : (Lit.int .u32 (hereZ base k)).wf = true := by
  have h : 0 ≤ hereZ base k ∧ hereZ base k < 4294967296 := by unfold hereZ; omega
  have h1 : IntKind.u32.min = 0 := rfl
  have h2 : IntKind.u32.max = 4294967295 := rfl
  simp [Lit.wf, h1, h2]
  omega
theorem suffix_any (s : List UInt8) (hl : s.length ≤ 100) (w : World) : Calls Tryz.prog 79 #[.string (bsl s), .string ⟨#[58]⟩] w fun e w' => e = .returned (.tuple #[.string (bsl (Lib.trimSuffix s [58])), .bool (Lib.hasSuffix s [58])]) ∧ w = w' := by
  refine (Tryz.strings_CutSuffix (bsl s) ⟨#[58]⟩ w (by rw [bsl_size]; omega)).mono ?_
  rintro e w' ⟨rfl, hw⟩
  rw [bsl_data]
  exact ⟨rfl, hw.symm⟩
set_option maxHeartbeats 2000000 in
set_option maxRecDepth 1000000 in
theorem line_label {B : Nat} {w0 w : World} {ab : Nat} {base : Int} {wv : Value} {ws : List Int} {lm n : Nat} {D : DataW Unit} {qv : Value} {qs : List (Int × Int × List UInt8)} (h : AsW B w0 w ab base wv ws lm n D qv qs)
    (ad : Nat → Addr) (mz : Int) (hP : PW w ad mz) (i : Int) (s nm : List UInt8) (hl : s.length ≤ 100) (hs : Lib.hasSuffix s [58] = true) (hnm : Lib.trimSuffix s [58] = nm) (hnl : nm.length ≤ 100) (hlab : labelB nm = true) (hnew : Maps.has D (.string nm) = false) (hn : n < 1000) :
    Calls Tryz.prog 48 #[.pointer (some ⟨ab, 0, none⟩), .int .i64 i, .string (bsl s)] w fun e w' => e = .returned .nilIface ∧ AsW B w0 w' ab base wv ws lm (n + 1) (D.put (.string nm) (.lit (.int .u32 (hereZ base ws.length)))) qv qs := by
  have HS := Lib.hid (suffix_any s hl w)
  rw [hs, hnm] at HS
  have HLA := Lib.hid (label_any nm hnl w)
  rw [hlab] at HLA
  have HA := Lib.hid h
  have HNEW := Lib.hid hnew
  have hkey := key_of nm hnl
  have HK := Lib.hid hkey
  clear h hs hnm hlab hkey hP
  go_enter Tryz.func48, Tryz.ntmps48
  go_wp2_with fail
  refine HS.out.mono ?_
  rintro e w1 ⟨rfl, rfl⟩
  go_wp2_with fail
  refine HLA.out.mono ?_
  rintro e w2 ⟨rfl, hb2⟩
  have HA2 := Lib.hid (HA.out.trans hb2)
  clear hb2 HA
  obtain ⟨c0, c1, c2, c3, f1, f3⟩ := AB.cells HA2.out.blk
  have hown := HA2.out.labels
  go_wp2_with (first
    | (at_lookup; refine wpList_lookup_own_ok_int _ rfl _ _ 88 rfl 9 22 .u32 mapLaw Tryz.underlying88 Tryz.underlying22 (zeroE32 _) lm n D rfl hown _ _ rfl HK.out ?_; intro c hat hwc))
  have hup : ∀ k : Nat, ∃ W' : World, (Instr.mapUpdate 88 (.map (some lm)) (.string (bsl nm)) (.int .u32 (hereZ base ws.length))).run Tryz.prog (w2.drewN k) = .ok () W' ∧ AsW B w0 W' ab base wv ws lm (n + 1) (D.put (.string nm) (.lit (.int .u32 (hereZ base ws.length)))) qv qs := fun k => by
    have hA := HA2.out.trans (bdrewN (Below.refl w2.heap.size w2) k)
    obtain ⟨W', h1, h2, h3⟩ := hA.labels.update mapLaw Tryz.underlying88 (by unfold maxLen; omega) HK.out (plainElem_int Tryz.underlying22 (here_wf base ws.length))
    exact ⟨W', h1, hA.label h2 h3⟩
  obtain ⟨Wu, hWu⟩ := Classical.skolem.1 hup
  have hrun := fun k => (hWu k).1
  have HWA := Lib.hid (fun k => (hWu k).2)
  have HH := Lib.hid (here_any (HA2.out.trans (Below.refl w2.heap.size w2).drew))
  clear hup hWu
  go_upto_region 8 with fail
  go_region_with (go_at_call 81; refine HH.out.mono ?_; rintro e w3 ⟨rfl, k, rfl⟩)
  all_goals
    go_wp2
    go_ret
    exact ⟨rfl, HWA.out _⟩
end Go.Proofs.YtnppegldebocmaaGreatDoor
namespace Go.Proofs.YtnppegldebocmaaGreatDoor
open Go.RowKit Go.Maps
set_option linter.unusedVariables false
theorem Tryz.infoU : (Tryz.prog.info? 22).map (fun i => (i.zero, i.size, i.bytes)) = some (some (.int .u32 0), 1, 4) := by kernel_rfl
theorem prefix_any (s : List UInt8) (w : World) : Calls Tryz.prog 82 #[.string (bsl s), .string ⟨#[46, 119, 111, 114, 100]⟩] w fun e w' => e = .returned (.tuple #[.string (bsl (Lib.trimPrefix s [46, 119, 111, 114, 100])), .bool (Lib.hasPrefix s [46, 119, 111, 114, 100])]) ∧ w = w' := by
  refine (Tryz.strings_CutPrefix (bsl s) ⟨#[46, 119, 111, 114, 100]⟩ w).mono ?_
  rintro e w' ⟨rfl, hw⟩
  rw [bsl_data]
  exact ⟨rfl, hw.symm⟩
theorem trimSp_any (s : List UInt8) (w : World) : Calls Tryz.prog 84 #[.string (bsl s), .string ⟨#[32]⟩] w fun e w' => e = .returned (.string (bsl (Lib.trimPrefix s [32]))) ∧ w = w' := by
  refine (Tryz.strings_TrimPrefix (bsl s) ⟨#[32]⟩ w).mono ?_
  rintro e w' ⟨rfl, hw⟩
  rw [bsl_data]
  exact ⟨rfl, hw.symm⟩
theorem hasSp_any (s : List UInt8) (w : World) : Calls Tryz.prog 85 #[.string (bsl s), .string ⟨#[32]⟩] w fun e w' => e = .returned (.bool (Lib.hasPrefix s [32])) ∧ w = w' := by
  refine (Tryz.strings_HasPrefix (bsl s) ⟨#[32]⟩ w).mono ?_
  rintro e w' ⟨rfl, hw⟩
  rw [bsl_data]
  exact ⟨rfl, hw.symm⟩
set_option maxHeartbeats 2000000 in
set_option maxRecDepth 1000000 in
theorem line_word {B : Nat} {w0 w : World} {ab : Nat} {base : Int} {wv : Value} {ws : List Int} {lm n : Nat} {D : DataW Unit} {qv : Value} {qs : List (Int × Int × List UInt8)} (h : AsW B w0 w ab base wv ws lm n D qv qs)
    (ad : Nat → Addr) (mz : Int) (hP : PW w ad mz) (i : Int) (s d : List UInt8) (u : Nat) (hl : s.length ≤ 100) (hs : Lib.hasSuffix s [58] = false) (hp : Lib.hasPrefix s [46, 119, 111, 114, 100] = true) (hd : Lib.trimPrefix s [46, 119, 111, 114, 100] = d) (hdl : (Lib.trimPrefix d [32]).length ≤ 100) (hsp : Lib.hasPrefix d [32] = true) (hw : wordB (Lib.trimPrefix d [32]) = some u) (hwl : ws.length < 1000) :
    Calls Tryz.prog 48 #[.pointer (some ⟨ab, 0, none⟩), .int .i64 i, .string (bsl s)] w fun e w' => e = .returned .nilIface ∧ ∃ wv', AsW B w0 w' ab base wv' (ws ++ [(u : Int)]) lm n D qv qs := by
  have HS := Lib.hid (suffix_any s hl w)
  rw [hs] at HS
  have HPF := Lib.hid (prefix_any s w)
  rw [hp, hd] at HPF
  have HTS := Lib.hid (trimSp_any d w)
  have HWD := Lib.hid (word_asm (Lib.trimPrefix d [32]) hdl ad mz w hP)
  have HSP := Lib.hid (fun W => hasSp_any d W)
  rw [hsp] at HSP
  have HWU := Lib.hid hw
  have HA := Lib.hid h
  have HWL := Lib.hid hwl
  obtain ⟨iU, hU1, hU2, hU3, hU4⟩ := info_parts Tryz.infoU
  clear h hs hp hd hw hsp hP hdl
  generalize Lib.trimPrefix d [32] = d2 at *
  generalize Lib.trimSuffix s [58] = ts at *
  go_enter Tryz.func48, Tryz.ntmps48
  go_wp2_with fail
  refine HS.out.mono ?_
  rintro e w1 ⟨rfl, rfl⟩
  go_wp2_with fail
  refine HPF.out.mono ?_
  rintro e w1 ⟨rfl, rfl⟩
  go_wp2_with fail
  refine HTS.out.mono ?_
  rintro e w1 ⟨rfl, rfl⟩
  go_wp2_with fail
  refine HWD.out.mono ?_
  rintro e w2 ⟨hb2, ⟨u', hu', rfl⟩ | ⟨hn, _⟩⟩
  case inr => rw [HWU.out] at hn; cases hn
  have hue : u' = u := by rw [HWU.out] at hu'; exact (Option.some.inj hu').symm
  subst hue
  have HA2 := Lib.hid (HA.out.trans hb2)
  clear hb2 HA hu'
  go_wp2_with fail
  refine (HSP.out _).mono ?_
  rintro e w3 ⟨rfl, rfl⟩
  obtain ⟨c0, c1, c2, c3, f1, f3⟩ := AB.cells HA2.out.blk
  have hsize := HA2.out.size
  have hwl := HWL.out
  go_wp2_with (at_builtin; refine wpList_append_lies _ rfl (.tmp 69) (.tmp 71) 39 rfl B 22 iU (.int .u32 0) 1 4 Tryz.underlying39 hU1 hU2 hU3 hU4 rfl (by decide) _ _ _ rfl (HA2.out.words.alloc _) _ 1 1 [_] rfl rfl (cell_one_new _ _ _) (fun x hx => by simp at hx; subst hx; rfl) (by decide) (by unfold maxLen; omega) (by omega) (by simp; omega) _ rfl ?_)
  intro g0 cap0 w4 hown4 hgrow4 hat4 hlt4
  have hgr : w2.grownBy w4 wv.ownBlock := (World.grownBy_alloc w2 _ _).trans hgrow4
  have hA4 := HA2.out.word hown4 hgr
  have HA4 := Lib.hid hA4
  have hab4 : AB w4 ab base wv lm qv := (hgr.block ab (Array.getElem?_eq_some_iff.1 HA2.out.blk).1 (own_ne HA2.out.words HA2.out.blk (by decide))).trans HA2.out.blk
  clear hown4 hgrow4 hat4 hlt4 hgr hA4
  obtain ⟨a0, a1, a2, a3, b1, b3⟩ := AB.cells hab4
  clear c0 c1 c2 c3 f1 f3 hab4
  go_wp2_with fail
  go_ret
  exact ⟨rfl, _, HA4.out⟩
set_option maxHeartbeats 2000000 in
set_option maxRecDepth 1000000 in
theorem line_ins {B : Nat} {w0 w : World} {ab : Nat} {base : Int} {wv : Value} {ws : List Int} {lm n : Nat} {D : DataW Unit} {qv : Value} {qs : List (Int × Int × List UInt8)} (h : AsW B w0 w ab base wv ws lm n D qv qs)
    (ad : Nat → Addr) (mz : Int) (hP : PW w ad mz) (i : Int) (s : List UInt8) (x : InsN) (hl : s.length ≤ 100) (hs : Lib.hasSuffix s [58] = false) (hp : Lib.hasPrefix s [46, 119, 111, 114, 100] = false) (hlb : labelledB s = none) (hx : parseB s = (x, 0)) (hwl : ws.length < 1000) :
    Calls Tryz.prog 48 #[.pointer (some ⟨ab, 0, none⟩), .int .i64 i, .string (bsl s)] w fun e w' => e = .returned .nilIface ∧ ∃ wv', AsW B w0 w' ab base wv' (ws ++ [encL x (fieldsB x.op.toNat)]) lm n D qv qs := by
  have HS := Lib.hid (suffix_any s hl w)
  rw [hs] at HS
  have HPF := Lib.hid (prefix_any s w)
  rw [hp] at HPF
  have HLB := Lib.hid (labelled_any s hl ad mz w hP)
  have HLN := Lib.hid hlb
  have HPA := Lib.hid (fun W (hW : PW W ad mz) => parse_any s hl ad mz W hW)
  rw [hx] at HPA
  obtain ⟨hg, hf, _⟩ := text_parse s x hx
  have HEN := Lib.hid (fun W (hW : Two W ad) => word_yes x hf hg ad W hW)
  have HP := Lib.hid hP
  have HA := Lib.hid h
  have HWL := Lib.hid hwl
  obtain ⟨iU, hU1, hU2, hU3, hU4⟩ := info_parts Tryz.infoU
  clear h hs hp hlb hx hP hg hf
  generalize Lib.trimPrefix s [46, 119, 111, 114, 100] = d at *
  generalize Lib.trimSuffix s [58] = ts at *
  generalize encL x (fieldsB x.op.toNat) = xv at *
  go_enter Tryz.func48, Tryz.ntmps48
  go_wp2_with fail
  refine HS.out.mono ?_
  rintro e w1 ⟨rfl, rfl⟩
  go_wp2_with fail
  refine HPF.out.mono ?_
  rintro e w1 ⟨rfl, rfl⟩
  go_wp2_with fail
  refine HLB.out.mono ?_
  rintro e w2 ⟨hb2, ⟨_, rfl⟩ | ⟨l, y, hly, _⟩⟩
  case inr => rw [HLN.out] at hly; cases hly
  have HA2 := Lib.hid (HA.out.trans hb2)
  have HP2 := Lib.hid (HP.out.below hb2)
  clear hb2 HA HP HLB
  unfold notLab
  go_wp2_with fail
  refine (HPA.out _ HP2.out).mono ?_
  rintro e w3 ⟨rfl, hb3⟩
  have HA3 := Lib.hid (HA2.out.trans hb3)
  have HP3 := Lib.hid (HP2.out.below hb3)
  clear hb3 HA2 HP2 HPA
  rw [errV_0]
  have hF := Five.new w3 (.int .i64 x.op) (.int .i64 x.s) (.int .i64 x.t) (.int .i64 x.d) (.int .u32 x.imm) 24
  have hal := (Below.refl w3.heap.size w3).alloc (Nat.le_refl _) (.cells #[.int .i64 x.op, .int .i64 x.s, .int .i64 x.t, .int .i64 x.d, .int .u32 x.imm] 24)
  have HA4 := Lib.hid (HA3.out.trans hal)
  have HP4 := Lib.hid (HP3.out.below hal)
  obtain ⟨d0, d1, d2, d3, d4⟩ := Five.cells hF
  clear hF hal HA3 HP3
  go_wp2_with fail
  generalize w3.alloc (.cells #[.int .i64 x.op, .int .i64 x.s, .int .i64 x.t, .int .i64 x.d, .int .u32 x.imm] 24) = w4 at *
  refine (HEN.out _ ⟨HP4.out.se.c1, HP4.out.se.c3⟩).mono ?_
  rintro e w5 ⟨rfl, hb5⟩
  have HA5 := Lib.hid (HA4.out.trans hb5)
  clear hb5 HA4 HP4 HEN d0 d1 d2 d3 d4
  obtain ⟨c0, c1, c2, c3, f1, f3⟩ := AB.cells HA5.out.blk
  have hsize := HA5.out.size
  have hwl := HWL.out
  go_wp2_with (at_builtin; refine wpList_append_lies _ rfl (.tmp 118) (.tmp 120) 39 rfl B 22 iU (.int .u32 0) 1 4 Tryz.underlying39 hU1 hU2 hU3 hU4 rfl (by decide) _ _ _ rfl (HA5.out.words.alloc _) _ 1 1 [_] rfl rfl (cell_one_new _ _ _) (fun x hx => by simp at hx; subst hx; rfl) (by decide) (by unfold maxLen; omega) (by omega) (by simp; omega) _ rfl ?_)
  intro g0 cap0 w6 hown4 hgrow4 hat4 hlt4
  have hgr : w5.grownBy w6 wv.ownBlock := (World.grownBy_alloc w5 _ _).trans hgrow4
  have hA4 := HA5.out.word hown4 hgr
  have HA6 := Lib.hid hA4
  have hab4 : AB w6 ab base wv lm qv := (hgr.block ab (Array.getElem?_eq_some_iff.1 HA5.out.blk).1 (own_ne HA5.out.words HA5.out.blk (by decide))).trans HA5.out.blk
  clear hown4 hgrow4 hat4 hlt4 hgr hA4
  obtain ⟨a0, a1, a2, a3, b1, b3⟩ := AB.cells hab4
  clear c0 c1 c2 c3 f1 f3 hab4
  go_wp2_with fail
  go_ret
  exact ⟨rfl, _, HA6.out⟩
end Go.Proofs.YtnppegldebocmaaGreatDoor
namespace Go.Proofs.YtnppegldebocmaaGreatDoor
open Go.RowKit Go.Maps
set_option linter.unusedVariables false
/-- What a line that is well makes of words and labels (branches to labels aside). -/
def stepB (base : Int) (st : List Int × DataW Unit) (s : List UInt8) : Option (List Int × DataW Unit) :=
  if Lib.hasSuffix s [58] = true then
    if labelB (Lib.trimSuffix s [58]) = true ∧ Maps.has st.2 (.string (Lib.trimSuffix s [58])) = false then some (st.1, st.2.put (.string (Lib.trimSuffix s [58])) (.lit (.int .u32 (hereZ base st.1.length)))) else none
  else if Lib.hasPrefix s [46, 119, 111, 114, 100] = true then
    if Lib.hasPrefix (Lib.trimPrefix s [46, 119, 111, 114, 100]) [32] = true then
      match wordB (Lib.trimPrefix (Lib.trimPrefix s [46, 119, 111, 114, 100]) [32]) with
      | some u => some (st.1 ++ [(u : Int)], st.2)
      | none => none
    else none
  else if labelledB s = none ∧ (parseB s).2 = 0 then some (st.1 ++ [encL (parseB s).1 (fieldsB (parseB s).1.op.toNat)], st.2) else none
theorem trimPre_len (s p : List UInt8) : (Lib.trimPrefix s p).length ≤ s.length := by
  unfold Lib.trimPrefix
  split
  · rw [List.length_drop]; omega
  · exact Nat.le_refl _
theorem trimSuf_len (s p : List UInt8) : (Lib.trimSuffix s p).length ≤ s.length := by
  unfold Lib.trimSuffix
  split
  · rw [List.length_take]; omega
  · exact Nat.le_refl _
theorem line_good {B : Nat} {w0 w : World} {ab : Nat} {base : Int} {wv : Value} {lm n : Nat} {qv : Value} {qs : List (Int × Int × List UInt8)} (st st' : List Int × DataW Unit) (h : AsW B w0 w ab base wv st.1 lm n st.2 qv qs)
    (ad : Nat → Addr) (mz : Int) (hP : PW w ad mz) (i : Int) (s : List UInt8) (hl : s.length ≤ 100) (hn : n < 1000) (hw : st.1.length < 1000) (hst : stepB base st s = some st') :
    Calls Tryz.prog 48 #[.pointer (some ⟨ab, 0, none⟩), .int .i64 i, .string (bsl s)] w fun e w' => e = .returned .nilIface ∧ ∃ wv' n', n' ≤ n + 1 ∧ AsW B w0 w' ab base wv' st'.1 lm n' st'.2 qv qs := by
  obtain ⟨ws, D⟩ := st
  unfold stepB at hst
  by_cases hs : Lib.hasSuffix s [58] = true
  · rw [if_pos hs] at hst
    split at hst
    · next hc =>
      cases hst
      refine (line_label h ad mz hP i s _ hl hs rfl (Nat.le_trans (trimSuf_len s _) hl) hc.1 hc.2 hn).mono ?_
      rintro e w' ⟨rfl, hA⟩
      exact ⟨rfl, wv, n + 1, Nat.le_refl _, hA⟩
    · cases hst
  · have hsf : Lib.hasSuffix s [58] = false := by simpa using hs
    rw [if_neg hs] at hst
    by_cases hp : Lib.hasPrefix s [46, 119, 111, 114, 100] = true
    · rw [if_pos hp] at hst
      split at hst
      · next hsp =>
        split at hst
        · next u hu =>
          cases hst
          refine (line_word h ad mz hP i s _ u hl hsf hp rfl (Nat.le_trans (trimPre_len _ _) (Nat.le_trans (trimPre_len s _) hl)) hsp hu hw).mono ?_
          rintro e w' ⟨rfl, wv', hA⟩
          exact ⟨rfl, wv', n, Nat.le_succ n, hA⟩
        · cases hst
      · cases hst
    · have hpf : Lib.hasPrefix s [46, 119, 111, 114, 100] = false := by simpa using hp
      rw [if_neg hp] at hst
      split at hst
      · next hc =>
        cases hst
        refine (line_ins h ad mz hP i s (parseB s).1 hl hsf hpf hc.1 (by rw [← hc.2]) hw).mono ?_
        rintro e w' ⟨rfl, wv', hA⟩
        exact ⟨rfl, wv', n, Nat.le_succ n, hA⟩
      · cases hst
def goodAll (base : Int) : List (List UInt8) → List Int × DataW Unit → Option (List Int × DataW Unit)
  | [], st => some st
  | s :: L, st => match stepB base st s with
    | none => none
    | some st' => goodAll base L st'
theorem goodAll_cons {base : Int} {s : List UInt8} {L : List (List UInt8)} {st r : List Int × DataW Unit} (h : goodAll base (s :: L) st = some r) : ∃ st', stepB base st s = some st' ∧ goodAll base L st' = some r := by
  unfold goodAll at h
  split at h
  · cases h
  · next st' h1 => exact ⟨st', h1, h⟩
theorem step_len {base : Int} {st st' : List Int × DataW Unit} {s : List UInt8} (h : stepB base st s = some st') : st'.1.length ≤ st.1.length + 1 := by
  unfold stepB at h
  repeat' split at h
  all_goals first | (cases h; simp) | cases h
end Go.Proofs.YtnppegldebocmaaGreatDoor
namespace Go.Proofs.YtnppegldebocmaaGreatDoor
open Go.RowKit Go.Maps
set_option linter.unusedVariables false
set_option maxHeartbeats 2000000 in
set_option maxRecDepth 1000000 in
theorem assemble_good (L : List (List UInt8)) (hL : L.length ≤ 200) (hlen : ∀ s ∈ L, s.length ≤ 100) (base : Int) (hb0 : 0 ≤ base) (hb4 : base % 4 = 0) (r : List Int × DataW Unit) (hg : goodAll base L ([], .map []) = some r)
    (ad : Nat → Addr) (mz : Int) (w : World) (hP : PW w ad mz) (B0 : Nat) (v : Value) (hv : w.ownsRow B0 9 1 v L.length (L.map fun s => .string (bsl s))) :
    Calls Tryz.prog 16 #[v, .int .u32 base] w fun e w' => ∃ wv, e = .returned (.tuple #[wv, .nilIface]) ∧ w'.ownsRow w.heap.size 22 1 wv r.1.length (r.1.map (.int .u32)) ∧ Below w.heap.size w w' := by
  obtain ⟨v', c', hv'⟩ : ∃ v' c', v = .slice v' L.length c' := by
    rcases Joins.ownsRow_forms hv with ⟨rfl, hz⟩ | ⟨g, cap, rfl⟩
    · exact ⟨_, _, by rw [hz]⟩
    · exact ⟨_, _, rfl⟩
  subst hv'
  have HV := Lib.hid hv
  have HP := Lib.hid hP
  have HLEN := Lib.hid hlen
  have HG := Lib.hid hg
  have hmm := @run_makeMap Tryz.prog
  have hbt : base.tmod 4 = 0 := by rw [Int.tmod_eq_emod_of_nonneg hb0]; exact hb4
  have hlz : ¬ (200 : Int) < (L.length : Int) := by omega
  clear hv hP hlen hg
  go_enter Tryz.func16, Tryz.ntmps16
  go_wp2_with fail
  have hA0 : AsW w.heap.size w ((w.alloc (.map #[] 0)).alloc (.cells #[.int .u32 base, .slice none 0 0, .map (some w.heap.size), .slice none 0 0] 91)) (w.heap.size + 1) base (.slice none 0 0) [] w.heap.size 0 (.map []) (.slice none 0 0) [] := by
    have hz : (w.alloc (.map #[] 0)).heap.size = w.heap.size + 1 := by simp
    refine ⟨?_, World.ownsRow_nil _ _ _ _, World.ownsRow_nil _ _ _ _, (World.ownsMap_made w _ _ _).alloc _, ((Below.refl _ _).alloc (Nat.le_refl _) _).alloc (by simp) _, Nat.le_succ _, Nat.le_refl _, by simp; omega⟩
    have := heap_alloc_new (w.alloc (.map #[] 0)) (.cells #[.int .u32 base, .slice none 0 0, .map (some w.heap.size), .slice none 0 0] 91)
    rw [hz] at this
    exact this
  have HA0 := Lib.hid hA0
  clear hA0 hmm hbt
  generalize (w.alloc (.map #[] 0)).alloc (.cells #[.int .u32 base, .slice none 0 0, .map (some w.heap.size), .slice none 0 0] 91) = w2 at *
  go_loopw [29] (fun kv wr => ∃ (j : Nat) (st : List Int × DataW Unit) (wv : Value) (n : Nat), j ≤ L.length ∧ n ≤ j ∧ st.1.length ≤ j ∧ kv = .int .i64 (j : Int) ∧ Hid (goodAll base (L.drop j) st = some r) ∧ Hid (AsW w.heap.size w wr (w.heap.size + 1) base wv st.1 w.heap.size n st.2 (.slice none 0 0) [])) (fun kv _ => L.length - (intOf kv).toNat)
  case atStart => exact ⟨0, ([], .map []), _, 0, Nat.zero_le _, Nat.le_refl _, Nat.le_refl _, rfl, HG, HA0⟩
  case round =>
    obtain ⟨j, st, wv, n, hj, hnj, hsj, rfl, HGJ, HAJ⟩ := hrel
    by_cases hlt : j < L.length
    · obtain ⟨g, cap, hvf⟩ := Joins.ownsRow_form HV.out (by go_light; omega)
      have hcell : w.cell? ⟨g, j, none⟩ = some (.string (bsl L[j])) := by
        have := HV.out.cells (show (Value.slice v' L.length c').ownBlock = some g by rw [hvf]; rfl) j (.string (bsl L[j])) (by rw [List.getElem?_map, List.getElem?_eq_getElem hlt]; rfl)
        have ha : (⟨g, 0, none⟩ : Addr).add j = ⟨g, j, none⟩ := by
          unfold Addr.add
          cases j <;> simp
        rw [ha] at this
        exact this
      have hgl : g < w.heap.size := (HV.out.lt g (by rw [hvf]; rfl)).2
      simp only [Value.slice.injEq] at hvf
      obtain ⟨hv1, _, rfl⟩ := hvf
      subst hv1
      have hcr : wr.cell? ⟨g, j, none⟩ = some (.string (bsl L[j])) := (HAJ.out.below.cell (by exact hgl)).trans hcell
      have hd : L.drop j = L[j] :: L.drop (j + 1) := List.drop_eq_getElem_cons hlt
      have hgj := HGJ.out
      rw [hd] at hgj
      obtain ⟨st', h1, h2⟩ := goodAll_cons hgj
      have hsl : L[j].length ≤ 100 := HLEN.out _ (List.getElem_mem hlt)
      have HLI := Lib.hid (line_good st st' HAJ.out ad mz (HP.out.below HAJ.out.below) (j : Int) L[j] hsl (by go_light; omega) (by go_light; omega) h1)
      have HS2 := Lib.hid (step_len h1)
      have HG2 := Lib.hid h2
      have hjl : (j : Int) < (L.length : Int) := by go_light; omega
      generalize L[j] = sj at *
      clear hcell hd hgj h1 h2 hsl hgl
      go_wp2_with fail
      refine HLI.out.mono ?_
      rintro e w3 ⟨rfl, wv', n', hn', hA3⟩
      have HA3 := Lib.hid hA3
      clear hA3
      go_wp2_with fail
      go_roundw
      case rel => exact ⟨j + 1, st', wv', n', hlt, by go_light; omega, by have := HS2.out; go_light; omega, by go_num, HG2, HA3⟩
      case measure => go_light; simp [intOf]; omega
    · have hje : j = L.length := by go_light; omega
      subst hje
      have hgj := HGJ.out
      rw [List.drop_length] at hgj
      have hst : st = r := Option.some.inj hgj
      subst hst
      have HAJ2 := HAJ
      obtain ⟨c0, c1, c2, c3, f1, f3⟩ := AB.cells HAJ.out.blk
      clear hlt hgj
      go_wp2_with fail
      go_loopw [51] (fun kv wx => kv = .int .i64 0 ∧ wx = wr) (fun _ _ => 0)
      case atStart => exact ⟨rfl, rfl⟩
      case round =>
        obtain ⟨rfl, rfl⟩ := hrel
        go_wp2_with fail
        exact bodyPost_ret (v := .tuple #[wv, .nilIface]) (by simp [results, Tryz.results16, go_sem]) rfl ⟨wv, rfl, HAJ2.out.words, HAJ2.out.below⟩
end Go.Proofs.YtnppegldebocmaaGreatDoor
