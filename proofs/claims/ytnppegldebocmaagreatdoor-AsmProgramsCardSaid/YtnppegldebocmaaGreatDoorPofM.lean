/- The plain part of the document's ParseOf: names, separators, operands read from a place. Conditions: as each theorem states. The walk of one round of the operands' loop of the document's ParseOf (block 5). Conditions: as each theorem states. The operands' loop of the document's ParseOf and what follows it. Conditions: as each theorem states. The walk of the document's ParseOf, its beginning: the name's end, the operation. Conditions: as each theorem states. -/
import Derived.Test.YtnppegldebocmaaGreatDoorNumAt
import Derived.Test.YtnppegldebocmaaGreatDoorEncB
import Derived.Deep.CutRange
import Derived.Deep.CutBlock
import Derived.Deep.Light
namespace Go.Proofs.YtnppegldebocmaaGreatDoor
open Go.RowKit
set_option linter.unusedVariables false
theorem name_at (s : List UInt8) (p : Nat) (h : p < (nameOf s).length) (h2 : p < s.length) : s[p]'h2 ≠ 32 := by
  have hp : nameOf s <+: s := List.takeWhile_prefix _
  have he : (nameOf s)[p] = s[p] := hp.getElem h
  have hall : ∀ (l : List UInt8), ∀ c ∈ l.takeWhile (fun c => c != 32), c ≠ 32 := by
    intro l
    induction l with
    | nil => intro c hc; cases hc
    | cons x l ih =>
      intro c hc
      by_cases hx : x = 32
      · simp [hx] at hc
      · have hb : (x != 32) = true := by simpa using hx
        simp only [List.takeWhile, hb, List.mem_cons] at hc
        rcases hc with rfl | hc
        · exact hx
        · exact ih c hc
  rw [← he]
  exact hall s _ (List.getElem_mem h)
theorem name_end (s : List UInt8) : (nameOf s).length = s.length ∨ ∃ h : (nameOf s).length < s.length, s[(nameOf s).length]'h = 32 := by
  have h : ∀ l : List UInt8, (l.takeWhile (fun c => c != 32)).length = l.length ∨ ∃ h : (l.takeWhile (fun c => c != 32)).length < l.length, l[(l.takeWhile (fun c => c != 32)).length]'h = 32 := by
    intro l
    induction l with
    | nil => left; rfl
    | cons x l ih =>
      by_cases hx : x = 32
      · right
        subst hx
        exact ⟨by simp, by simp⟩
      · have hb : (x != 32) = true := by simpa using hx
        rcases ih with e | ⟨h, e⟩
        · left; simp only [List.takeWhile, hb, List.length_cons, e]
        · right
          have hc : (List.takeWhile (fun c => c != 32) (x :: l)) = x :: List.takeWhile (fun c => c != 32) l := by simp only [List.takeWhile, hb]
          refine ⟨by rw [hc]; simp; omega, ?_⟩
          simp only [hc, List.length_cons, List.getElem_cons_succ]
          exact e
  exact h s
theorem take_name_of (s : List UInt8) : s.take (nameOf s).length = nameOf s := by
  have hp : nameOf s <+: s := List.takeWhile_prefix _
  exact (List.prefix_iff_eq_take.1 hp).symm
theorem pre_take (sb t : List UInt8) : sb.isPrefixOf t = true ↔ (sb.length ≤ t.length ∧ t.take sb.length = sb) := by
  rw [List.isPrefixOf_iff_prefix, List.prefix_iff_eq_take]
  constructor
  · intro h
    refine ⟨?_, h.symm⟩
    have := congrArg List.length h
    rw [List.length_take] at this
    omega
  · exact fun h => h.2.symm
theorem ext_bsl (s : List UInt8) (a b : Nat) : (bsl s).extract a b = bsl ((s.drop a).take (b - a)) := by
  apply ByteArray.ext
  rw [ByteArray.data_extract]
  have h1 : (bsl s).data = s.toArray := rfl
  rw [h1]
  apply Array.ext'
  simp [bsl, List.take_drop]
theorem drop_suf {s r q u : List UInt8} {a : Nat} (h : s.drop a = q ++ u) (ha : a ≤ s.length) : s.drop (s.length - u.length) = u ∧ s.length - u.length = a + q.length ∧ u.length ≤ s.length := by
  have hl := congrArg List.length h
  rw [List.length_drop, List.length_append] at hl
  have e : s.length - u.length = a + q.length := by omega
  refine ⟨?_, e, by omega⟩
  rw [e, ← List.drop_drop, h, List.drop_left]
theorem blw_drewN {B : Nat} {a w : World} (h : Below B a w) (n : Nat) : Below B a (w.drewN n) := h.trans ⟨rfl, rfl, rfl, Nat.le_refl _, fun _ _ => rfl⟩
theorem nameN_spec (l : List UInt8) (h : nameN l ≠ 0) : nameB (nameN l) = l := by
  by_cases hh : ∃ k, 1 ≤ k ∧ k < 54 ∧ nameB k = l
  · obtain ⟨k, a, b, c⟩ := hh
    rw [nameN_hit _ k a b c, c]
  · exact absurd (nameN_none _ fun k a b c => hh ⟨k, a, b, c⟩) h
theorem InsAt.seto {w : World} {b : Nat} {i : InsN} (h : InsAt w b i) (m : Int) : InsAt (w.setCell ⟨b, 0, none⟩ (.int .i64 m)) b ⟨m, i.s, i.t, i.d, i.imm⟩ := Joins.block_setCell (i := 0) h _

def isR (c : UInt8) : Bool := decide (c = 83) || (decide (c = 84) || decide (c = 68))
def opS (c : UInt8) (r : List UInt8) : Option (Int × List UInt8) := if isR c = true then scanReg r else scanNum r
def setF (i : InsN) (c : UInt8) (v : Int) : InsN :=
  if c = 83 then ⟨i.op, v, i.t, i.d, i.imm⟩ else if c = 84 then ⟨i.op, i.s, v, i.d, i.imm⟩ else if c = 68 then ⟨i.op, i.s, i.t, v, i.imm⟩ else ⟨i.op, i.s, i.t, i.d, immOf c v⟩
def bndM (c : UInt8) : Int × Int := if isR c = true then (0, 31) else bndL c
theorem scanReg_nonneg {r u : List UInt8} {v : Int} (h : scanReg r = some (v, u)) : 0 ≤ v := by
  unfold scanReg at h
  split at h
  · split at h
    · cases h
    · split at h
      · cases h
      · cases h; omega
  · cases h
theorem scanNum_bound {r u : List UInt8} {v : Int} (h : scanNum r = some (v, u)) : -99999999999 ≤ v ∧ v ≤ 99999999999 := by
  obtain ⟨m, ds, _, hok, rfl, _⟩ := of_scan h
  have := val_bound ds hok.dig (by have := hok.len; omega)
  cases m <;> simp only [sgn] <;> (try simp only [Bool.false_eq_true, if_false, if_true]) <;> omega
theorem scanReg_bound {r u : List UInt8} {v : Int} (h : scanReg r = some (v, u)) : -99999999999 ≤ v ∧ v ≤ 99999999999 := by
  unfold scanReg at h
  split at h
  · split at h
    · cases h
    · next n u' hn =>
      split at h
      · cases h
      · cases h; exact scanNum_bound hn
  · cases h
theorem opS_bound {c : UInt8} {r u : List UInt8} {v : Int} (h : opS c r = some (v, u)) : -99999999999 ≤ v ∧ v ≤ 99999999999 := by
  unfold opS at h
  split at h
  · exact scanReg_bound h
  · exact scanNum_bound h
theorem scanReg_suf {r u : List UInt8} {v : Int} (h : scanReg r = some (v, u)) : ∃ q, r = q ++ u := by
  obtain ⟨q, e, _⟩ := reg_scan h
  exact ⟨q, e⟩
theorem opS_suf {c : UInt8} {r u : List UInt8} {v : Int} (h : opS c r = some (v, u)) : ∃ q, r = q ++ u := by
  unfold opS at h
  split at h
  · exact scanReg_suf h
  · obtain ⟨q, e, _⟩ := num_scan h
    exact ⟨q, e⟩
theorem isR_83 : isR 83 = true := by decide
theorem isR_84 : isR 84 = true := by decide
theorem isR_68 : isR 68 = true := by decide
theorem isR_109 : isR 109 = false := by decide
theorem isR_false {c : UInt8} (h1 : c ≠ 83) (h2 : c ≠ 84) (h3 : c ≠ 68) : isR c = false := by simp [isR, h1, h2, h3]
theorem opScan_none {i : InsN} {c : UInt8} {r : List UInt8} (h : opS c r = none) : opScan i c r = none := by
  unfold opScan
  by_cases h1 : c = 83
  · subst h1; rw [opS, isR_83, if_pos rfl] at h; rw [if_pos rfl, h]; rfl
  rw [if_neg h1]
  by_cases h2 : c = 84
  · subst h2; rw [opS, isR_84, if_pos rfl] at h; rw [if_pos rfl, h]; rfl
  rw [if_neg h2]
  by_cases h3 : c = 68
  · subst h3; rw [opS, isR_68, if_pos rfl] at h; rw [if_pos rfl, h]; rfl
  rw [if_neg h3]
  rw [opS, isR_false h1 h2 h3, if_neg (by decide)] at h
  by_cases h4 : c = 109
  · rw [if_pos h4, h]
  · rw [if_neg h4, h]; rfl
theorem opScan_some {i : InsN} {c : UInt8} {r u : List UInt8} {v : Int} (hc : c ≠ 109) (h : opS c r = some (v, u)) :
    opScan i c r = some (setF i c v, decide (v < (bndM c).1) || decide ((bndM c).2 < v), u) := by
  have hreg : isR c = true → decide (v < (bndM c).1) = false := fun hr => by
    rw [opS, if_pos hr] at h
    have := scanReg_nonneg h
    rw [bndM, if_pos hr]
    exact decide_eq_false (by show ¬ v < 0; omega)
  unfold opScan setF
  by_cases h1 : c = 83
  · subst h1; rw [hreg isR_83]; rw [opS, isR_83, if_pos rfl] at h; rw [if_pos rfl, if_pos rfl, h]; rfl
  rw [if_neg h1, if_neg h1]
  by_cases h2 : c = 84
  · subst h2; rw [hreg isR_84]; rw [opS, isR_84, if_pos rfl] at h; rw [if_pos rfl, if_pos rfl, h]; rfl
  rw [if_neg h2, if_neg h2]
  by_cases h3 : c = 68
  · subst h3; rw [hreg isR_68]; rw [opS, isR_68, if_pos rfl] at h; rw [if_pos rfl, if_pos rfl, h]; rfl
  rw [if_neg h3, if_neg h3]
  have hr := isR_false h1 h2 h3
  rw [opS, hr, if_neg (by decide)] at h
  rw [if_neg hc, h, bndM, hr, if_neg (by decide)]; rfl
theorem opScan_m {i : InsN} {r u : List UInt8} {v : Int} (h : opS 109 r = some (v, u)) :
    opScan i 109 r = if u.head? = some 40 then
        match scanReg (u.drop 1) with
        | none => none
        | some (k, w) => if w.head? = some 41 then some (⟨i.op, k, i.t, i.d, v % 65536⟩, (decide (v < (bndM 109).1) || decide ((bndM 109).2 < v)) || decide (31 < k), w.drop 1) else none
      else none := by
  rw [opS, isR_109, if_neg (by decide)] at h
  unfold opScan
  rw [if_neg (by decide), if_neg (by decide), if_neg (by decide), if_pos rfl, h]
  rfl
theorem byte_ne {c d : UInt8} (h : c ≠ d) : ((c.toNat : Int) == (d.toNat : Int)) = false := beq_eq_false_iff_ne.2 fun e => h (UInt8.toNat_inj.1 (by omega))
theorem tmod_word (v : Int) : ((v.tmod 65536 + 65536).tmod 65536) = v % 65536 := by
  by_cases h : 0 ≤ v
  · rw [Int.tmod_eq_emod_of_nonneg h, Int.tmod_eq_emod_of_nonneg (by omega)]; omega
  · have hx := Int.tmod_eq_emod_of_nonneg (b := 65536) (show 0 ≤ -v by omega)
    have hy : v.tmod 65536 = -((-v) % 65536) := by rw [← hx, ← Int.neg_tmod, Int.neg_neg]
    rw [hy, Int.tmod_eq_emod_of_nonneg (by omega)]; omega
theorem InsAt.set1 {w : World} {b : Nat} {i : InsN} (h : InsAt w b i) (m : Int) : InsAt (w.setCell ⟨b, 1, none⟩ (.int .i64 m)) b ⟨i.op, m, i.t, i.d, i.imm⟩ := Joins.block_setCell (i := 1) h _
theorem InsAt.set2 {w : World} {b : Nat} {i : InsN} (h : InsAt w b i) (m : Int) : InsAt (w.setCell ⟨b, 2, none⟩ (.int .i64 m)) b ⟨i.op, i.s, m, i.d, i.imm⟩ := Joins.block_setCell (i := 2) h _
theorem InsAt.set3 {w : World} {b : Nat} {i : InsN} (h : InsAt w b i) (m : Int) : InsAt (w.setCell ⟨b, 3, none⟩ (.int .i64 m)) b ⟨i.op, i.s, i.t, m, i.imm⟩ := Joins.block_setCell (i := 3) h _
theorem InsAt.set4 {w : World} {b : Nat} {i : InsN} (h : InsAt w b i) (m : Int) : InsAt (w.setCell ⟨b, 4, none⟩ (.int .u32 m)) b ⟨i.op, i.s, i.t, i.d, m⟩ := Joins.block_setCell (i := 4) h _
theorem Hid.iff {p q : Prop} (h : Hid p) (e : p → q) : Hid q := e h.out
end Go.Proofs.YtnppegldebocmaaGreatDoor
namespace Go.Proofs.YtnppegldebocmaaGreatDoor
open Go.RowKit
set_option linter.unusedVariables false
/-- The inside of block n of a code. -/
def findBlk (n : Nat) : Code → Option Code
  | .block k c => if k = n then some c else findBlk n c
  | .seq a b => match findBlk n a with
    | some c => some c
    | none => findBlk n b
  | .cond _ a b => match findBlk n a with
    | some c => some c
    | none => findBlk n b
  | .loop c => findBlk n c
  | _ => none
noncomputable def blkOf (n : Nat) (f : Func) : Code := ((f.body.bind (findBlk n)).getD .skip)
/-- ParseOf's end where it returns what it has drawn. -/
noncomputable abbrev pofQ (w : World) (R : InsN × Nat) : Exit → Act → World → Prop :=
  bodyPost Tryz.prog Tryz.f13 (fun e w' => e = .returned (.tuple #[insV R.1, .int .i64 ((R.2 : Nat) : Int)]) ∧ Below w.heap.size w w')
theorem setF_83 (i : InsN) (v : Int) : setF i 83 v = ⟨i.op, v, i.t, i.d, i.imm⟩ := rfl
theorem setF_84 (i : InsN) (v : Int) : setF i 84 v = ⟨i.op, i.s, v, i.d, i.imm⟩ := rfl
theorem setF_68 (i : InsN) (v : Int) : setF i 68 v = ⟨i.op, i.s, i.t, v, i.imm⟩ := rfl
theorem setF_110 (i : InsN) (v : Int) : setF i 110 v = ⟨i.op, i.s, i.t, i.d, v % 65536⟩ := rfl
theorem setF_109 (i : InsN) (v : Int) : setF i 109 v = ⟨i.op, i.s, i.t, i.d, v % 65536⟩ := rfl
theorem setF_97 (i : InsN) (v : Int) : setF i 97 v = ⟨i.op, i.s, i.t, i.d, v % 4294967296⟩ := rfl
theorem setF_117 (i : InsN) (v : Int) : setF i 117 v = ⟨i.op, i.s, i.t, i.d, v % 4294967296⟩ := rfl
theorem setF_106 (i : InsN) (v : Int) : setF i 106 v = ⟨i.op, i.s, i.t, i.d, v % 4294967296⟩ := rfl
theorem word16 (v : Int) : (wrap64 (v.tmod 65536 + 65536)).tmod 65536 % 4294967296 = v % 65536 := by
  have h := tmod_word v
  have hb : -65536 < v.tmod 65536 ∧ v.tmod 65536 < 65536 := by
    by_cases h0 : 0 ≤ v
    · rw [Int.tmod_eq_emod_of_nonneg h0]; omega
    · have hx := Int.tmod_eq_emod_of_nonneg (b := 65536) (show 0 ≤ -v by omega)
      have hy : v.tmod 65536 = -((-v) % 65536) := by rw [← hx, ← Int.neg_tmod, Int.neg_neg]
      omega
  have hw : wrap64 (v.tmod 65536 + 65536) = v.tmod 65536 + 65536 := by unfold wrap64; omega
  rw [hw, h]
  omega
theorem letters_are {c : UInt8} (h : c ∈ opLetters) : c = 83 ∨ c = 84 ∨ c = 68 ∨ c = 110 ∨ c = 109 ∨ c = 97 ∨ c = 117 ∨ c = 106 := by simpa [opLetters] using h
theorem head_at (s : List UInt8) (p : Nat) : (s.drop p).head? = s[p]? := List.head?_drop
set_option maxHeartbeats 4000000 in
set_option maxRecDepth 1000000 in
theorem pof_round (s o : List UInt8) (hl : s.length ≤ 100) (m p : Nat) (f : Bool) (R : InsN × Nat) (i' : InsN) (w w1 wr : World) (ib : Nat)
    (hp : p ≤ s.length) (hlt3 : m < o.length) (hol : o.length ≤ 3) (hoL : ∀ c ∈ o, c ∈ opLetters)
    (hib : w.heap.size < ib) (HR1 : Hid (InsAt w1 w.heap.size insZ)) (HB1 : Hid (Below w.heap.size w w1)) (HIK : Hid (InsAt wr ib i')) (HBK : Hid (Below ib w1 wr))
    (HRK : Hid (R = refOps (decide (m = 0)) (o.drop m) i' f (s.drop p)))
    (v1 v3 v5 v7 v11 v12 v13 v14 v15 v16 v17 v18 v19 v20 v21 v22 v23 v24 v25 v26 v27 v28 v29 v30 v31 v32 v33 v34 v35 v36 v37 v38 v39 v40 v41 v42 v43 v44 v45 v46 v47 v48 v49 v50 v51 v52 v53 v54 v55 v56 v57 v58 v59 v60 v61 v62 v63 v64 v65 v66 v67 v68 v69 v70 v71 v72 v73 v74 v75 v76 v77 v78 v79 v80 v81 v82 v83 v84 v85 v86 v87 v88 v89 v90 v91 v92 v93 v94 v95 v96 v97 v98 v99 v100 v101 v102 v103 v104 v105 v106 v107 v108 v109 v110 v111 v112 v113 v114 v115 v116 v117 v118 v119 v120 v121 v122 v123 v124 v125 v126 v127 v128 v129 v130 v131 v132 v133 v134 v135 v136 v137 v138 v139 v140 v141 v142 v143 v144 v145 v146 v147 v148 v149 v150 v151 v152 v153 v154 v155 v156 v157 v158 v159 v160 v161 v162 v163 v164 v165 v166 v167 v168 v169 v170 v171 v172 v173 v174 v175 v176 v177 v178 v179 v180 v181 v182 v183 v184 v185 v186 v187 v188 v189 v190 v191 v192 v193 v194 v195 v196 v197 v198 v199 v200 v201 v202 v203 v204 v205 v206 v207 v208 v209 v210 : Value) (K : Act → World → Prop)
    (hK : ∀ (u4 u9 u11 u12 u13 u14 u62 u63 u64 u65 u66 u67 u68 u69 u70 u71 u72 u73 u74 u75 u76 u77 u78 u79 u80 u81 u82 u83 u84 u85 u86 u87 u88 u89 u90 u91 u92 u93 u94 u95 u96 u97 u98 u99 u100 u101 u102 u103 u104 u105 u106 u107 u108 u109 u110 u111 u112 u113 u114 u115 u116 u117 u118 u119 u120 u121 u122 u123 u124 u125 u126 u127 u128 u129 u130 u131 u132 u133 u134 u135 u136 u137 u138 u139 u140 u141 u142 u143 u144 u145 u146 u147 u148 u149 u150 u151 u152 u153 u154 u155 u156 u157 u158 u159 u160 u161 u162 u163 u164 u165 u166 u167 u168 u169 u170 u171 u172 u173 u174 u175 u176 u177 u178 u179 u180 u181 u182 u183 u184 u185 u186 u187 u188 u189 u190 u191 u192 u193 u194 u195 u196 u197 u198 u199 u200 u201 u202 : Value) (p2 : Nat) (f2 : Bool) (i2 : InsN) (w' : World), u4 = .int .i64 (p2 : Int) → u9 = .bool f2 → p2 ≤ s.length → Hid (InsAt w' ib i2) → Hid (Below ib w1 w') →
      Hid (R = refOps false (o.drop (m + 1)) i2 f2 (s.drop p2)) → K ⟨#[.string (bsl s), v1, .pointer (some ⟨w.heap.size, 0, none⟩), v3, u4, v5, .pointer (some ⟨ib, 0, none⟩), v7, .string (bsl o), u9, .int .i64 (m : Int), u11, u12, u13, u14, v15, v16, v17, v18, v19, v20, v21, v22, v23, v24, v25, v26, v27, v28, v29, v30, v31, v32, v33, v34, v35, v36, v37, v38, v39, v40, v41, v42, v43, v44, v45, v46, v47, v48, v49, v50, v51, v52, v53, v54, v55, v56, v57, v58, v59, v60, v61, u62, u63, u64, u65, u66, u67, u68, u69, u70, u71, u72, u73, u74, u75, u76, u77, u78, u79, u80, u81, u82, u83, u84, u85, u86, u87, u88, u89, u90, u91, u92, u93, u94, u95, u96, u97, u98, u99, u100, u101, u102, u103, u104, u105, u106, u107, u108, u109, u110, u111, u112, u113, u114, u115, u116, u117, u118, u119, u120, u121, u122, u123, u124, u125, u126, u127, u128, u129, u130, u131, u132, u133, u134, u135, u136, u137, u138, u139, u140, u141, u142, u143, u144, u145, u146, u147, u148, u149, u150, u151, u152, u153, u154, u155, u156, u157, u158, u159, u160, u161, u162, u163, u164, u165, u166, u167, u168, u169, u170, u171, u172, u173, u174, u175, u176, u177, u178, u179, u180, u181, u182, u183, u184, u185, u186, u187, u188, u189, u190, u191, u192, u193, u194, u195, u196, u197, u198, u199, u200, u201, u202, v203, v204, v205, v206, v207, v208, v209, v210], []⟩ w') :
    Code.wp Tryz.prog (Code.block 5 (blkOf 5 Tryz.f13)) (Exit.then K (pofQ w R)) ⟨#[.string (bsl s), v1, .pointer (some ⟨w.heap.size, 0, none⟩), v3, .int .i64 (p : Int), v5, .pointer (some ⟨ib, 0, none⟩), v7, .string (bsl o), .bool f, .int .i64 (m : Int), v11, v12, v13, v14, v15, v16, v17, v18, v19, v20, v21, v22, v23, v24, v25, v26, v27, v28, v29, v30, v31, v32, v33, v34, v35, v36, v37, v38, v39, v40, v41, v42, v43, v44, v45, v46, v47, v48, v49, v50, v51, v52, v53, v54, v55, v56, v57, v58, v59, v60, v61, v62, v63, v64, v65, v66, v67, v68, v69, v70, v71, v72, v73, v74, v75, v76, v77, v78, v79, v80, v81, v82, v83, v84, v85, v86, v87, v88, v89, v90, v91, v92, v93, v94, v95, v96, v97, v98, v99, v100, v101, v102, v103, v104, v105, v106, v107, v108, v109, v110, v111, v112, v113, v114, v115, v116, v117, v118, v119, v120, v121, v122, v123, v124, v125, v126, v127, v128, v129, v130, v131, v132, v133, v134, v135, v136, v137, v138, v139, v140, v141, v142, v143, v144, v145, v146, v147, v148, v149, v150, v151, v152, v153, v154, v155, v156, v157, v158, v159, v160, v161, v162, v163, v164, v165, v166, v167, v168, v169, v170, v171, v172, v173, v174, v175, v176, v177, v178, v179, v180, v181, v182, v183, v184, v185, v186, v187, v188, v189, v190, v191, v192, v193, v194, v195, v196, v197, v198, v199, v200, v201, v202, v203, v204, v205, v206, v207, v208, v209, v210], []⟩ wr := by
  conv => arg 2; arg 2; whnf
  have HK := Lib.hid hK
  have HIB : Hid (w.heap.size < ib) := hib
  have HRRK := Lib.hid (HR1.out.below HBK.out hib)
  have HBWK := Lib.hid (HB1.out.trans (HBK.out.mono (Nat.le_of_lt hib)))
  have hsz := bsl_size s
  have hos := bsl_size o
  have hdo : o.drop m = o[m]'hlt3 :: o.drop (m + 1) := List.drop_eq_getElem_cons hlt3
  have hltb : m < (bsl o).size := by rw [hos]; exact hlt3
  obtain ⟨c, hc⟩ : ∃ c, o[m]'hlt3 = c := ⟨_, rfl⟩
  have hcm : c ∈ opLetters := hc ▸ hoL _ (List.getElem_mem hlt3)
  have HCM := Lib.hid hcm
  have hcb : (bsl o)[m]'hltb = c := by rw [bsl_get]; exact hc
  have HCB := Lib.hid hcb
  rw [hdo, hc] at HRK
  obtain ⟨o2, ho2⟩ : ∃ o2, o.drop (m + 1) = o2 := ⟨_, rfl⟩
  rw [ho2] at HRK HK
  obtain ⟨sb, hsb⟩ : ∃ sb, (if decide (m = 0) = true then [32] else [44, 32] : List UInt8) = sb := ⟨_, rfl⟩
  have HSB := Lib.hid hsb
  have hsbl : sb.length ≤ 2 := by rw [← hsb]; split <;> decide
  have HRS2 : Hid (R = if sb.isPrefixOf (s.drop p) = true then (match opScan i' c ((s.drop p).drop sb.length) with
    | none => (insZ, 1)
    | some (x, g, u) => refOps false o2 x (f || g) u) else (insZ, 1)) := by show _ = _; rw [HRK.out, refOps, hsb]; rfl
  clear hsb hdo hc ho2 HRK hcm hcb hK hoL hib
  go_upto_if 63 with fail
  go_cut [11] from 62 to 63 (fun s11 wx => s11 = .string (bsl sb) ∧ wr = wx)
  case first =>
    by_cases hm0 : m = 0
    · have hm0' : ¬ (0 : Int) < (m : Int) := by go_light; omega
      have hq : sb = [32] := by rw [← HSB.out, if_pos (decide_eq_true hm0)]
      subst hq
      clear hm0
      go_wp2_with fail
      go_meet
      exact ⟨rfl, rfl⟩
    · have hm0' : (0 : Int) < (m : Int) := by go_light; omega
      have hq : sb = [44, 32] := by rw [← HSB.out, if_neg (by simpa using hm0)]
      subst hq
      clear hm0
      go_wp2_with fail
      go_meet
      exact ⟨rfl, rfl⟩
  case rest =>
    obtain ⟨rfl, rfl⟩ := hcut
    have hsbs := bsl_size sb
    by_cases hsh : s.length < p + sb.length
    · have hsh' : (s.length : Int) < (p : Int) + (sb.length : Int) := by go_light; omega
      have HRF : Hid (R = (insZ, 1)) := by show _ = _; rw [HRS2.out]; exact if_neg fun h => by have := (pre_take _ _).1 h; rw [List.length_drop] at this; go_light; omega
      clear hsh
      have HG := Lib.hid (Five.fill HRRK.out (.int .i64 0) (.int .i64 0) (.int .i64 0) (.int .i64 0) (.int .u32 0))
      have HFN := Lib.hid (below_fill HBWK.out (Nat.le_refl _) (.int .i64 0) (.int .i64 0) (.int .i64 0) (.int .i64 0) (.int .u32 0))
      obtain ⟨c0, c1, c2, c3, c4⟩ := Five.cells HRRK.out
      obtain ⟨g0, g1, g2, g3, g4⟩ := Five.free HRRK.out
      go_wp2_with fail
      all_goals
        change bodyPost _ _ _ _ _ (fill5 (wr) w.heap.size (.int .i64 0) (.int .i64 0) (.int .i64 0) (.int .i64 0) (.int .u32 0))
        clear c0 c1 c2 c3 c4 g0 g1 g2 g3 g4
        generalize fill5 (wr) w.heap.size (.int .i64 0) (.int .i64 0) (.int .i64 0) (.int .i64 0) (.int .u32 0) = W5 at *
        obtain ⟨q0, q1, q2, q3, q4⟩ := Five.cells HG.out
        exact bodyPost_ret (v := .tuple #[insV insZ, .int .i64 1]) (by simp [results, Tryz.f13, go_sem, q0, q1, q2, q3, q4]) rfl ⟨by rw [HRF.out]; rfl, HFN.out⟩
    have hsh' : (p : Int) + (sb.length : Int) ≤ (s.length : Int) := by go_light; omega
    by_cases hpn : ¬ sb.isPrefixOf (s.drop p) = true
    · have hte : ((s.drop p).take sb.length == sb) = false := beq_eq_false_iff_ne.2 fun h => hpn ((pre_take _ _).2 ⟨by rw [List.length_drop]; go_light; omega, h⟩)
      have hex2 : (bsl s).extract p (p + sb.length) = bsl ((s.drop p).take sb.length) := by rw [ext_bsl, Nat.add_sub_cancel_left]
      have HRF : Hid (R = (insZ, 1)) := by show _ = _; rw [HRS2.out]; exact if_neg hpn
      obtain ⟨sx, hsx⟩ : ∃ sx, (s.drop p).take sb.length = sx := ⟨_, rfl⟩
      rw [hsx] at hte hex2
      have hte2 : ((bsl sx).toList == (bsl sb).toList) = false := by rw [bsl_l2, bsl_l2]; exact hte
      clear hsh hpn hte HRS2 hsx
      have HG := Lib.hid (Five.fill HRRK.out (.int .i64 0) (.int .i64 0) (.int .i64 0) (.int .i64 0) (.int .u32 0))
      have HFN := Lib.hid (below_fill HBWK.out (Nat.le_refl _) (.int .i64 0) (.int .i64 0) (.int .i64 0) (.int .i64 0) (.int .u32 0))
      obtain ⟨c0, c1, c2, c3, c4⟩ := Five.cells HRRK.out
      obtain ⟨g0, g1, g2, g3, g4⟩ := Five.free HRRK.out
      go_wp2_with fail
      all_goals
        change bodyPost _ _ _ _ _ (fill5 (wr) w.heap.size (.int .i64 0) (.int .i64 0) (.int .i64 0) (.int .i64 0) (.int .u32 0))
        clear c0 c1 c2 c3 c4 g0 g1 g2 g3 g4
        generalize fill5 (wr) w.heap.size (.int .i64 0) (.int .i64 0) (.int .i64 0) (.int .i64 0) (.int .u32 0) = W5 at *
        obtain ⟨q0, q1, q2, q3, q4⟩ := Five.cells HG.out
        exact bodyPost_ret (v := .tuple #[insV insZ, .int .i64 1]) (by simp [results, Tryz.f13, go_sem, q0, q1, q2, q3, q4]) rfl ⟨by rw [HRF.out]; rfl, HFN.out⟩
    have hpx : sb.isPrefixOf (s.drop p) = true := Classical.not_not.1 hpn
    have hte : (s.drop p).take sb.length = sb := ((pre_take _ _).1 hpx).2
    have hex2 : (bsl s).extract p (p + sb.length) = bsl sb := by rw [ext_bsl, Nat.add_sub_cancel_left, hte]
    have HRS3 := Lib.hid (HRS2.out.trans (if_pos hpx))
    clear hsh hpx hte HRS2 hpn
    obtain ⟨p2, hp2⟩ : ∃ p2, p + sb.length = p2 := ⟨_, rfl⟩
    have hpp : (p : Int) + (sb.length : Int) = (p2 : Int) := by go_light; omega
    have hp2s : p2 ≤ s.length := by go_light; omega
    have hdr : (s.drop p).drop sb.length = s.drop p2 := by rw [List.drop_drop, hp2]
    rw [hdr] at HRS3
    rw [hp2] at hex2
    rw [hpp] at hsh'
    clear hp2 hdr
    go_upto_region 27 with fail
    clear hex2
    go_cut [101] from 64 to 101 (fun s101 wx => ∃ b : Bool, s101 = .bool b ∧ Hid (b = isR c) ∧ wr = wx)
    case first =>
      by_cases c1 : c = 83
      · have h1 : ((((bsl o)[m]'hltb).toNat : Int) == 83) = true := by rw [HCB.out, c1]; rfl
        have hr : Hid (true = isR c) := by show _ = _; rw [c1]; rfl
        clear c1
        go_wp2_with fail
        go_meet
        exact ⟨_, rfl, hr, rfl⟩
      by_cases c2 : c = 84
      · have h1 : ((((bsl o)[m]'hltb).toNat : Int) == 83) = false := by rw [HCB.out, c2]; rfl
        have h2 : ((((bsl o)[m]'hltb).toNat : Int) == 84) = true := by rw [HCB.out, c2]; rfl
        have hr : Hid (true = isR c) := by show _ = _; rw [c2]; rfl
        clear c1 c2
        go_wp2_with fail
        go_meet
        exact ⟨_, rfl, hr, rfl⟩
      by_cases c3 : c = 68
      · have h1 : ((((bsl o)[m]'hltb).toNat : Int) == 83) = false := by rw [HCB.out, c3]; rfl
        have h2 : ((((bsl o)[m]'hltb).toNat : Int) == 84) = false := by rw [HCB.out, c3]; rfl
        have h3 : ((((bsl o)[m]'hltb).toNat : Int) == 68) = true := by rw [HCB.out, c3]; rfl
        have hr : Hid (true = isR c) := by show _ = _; rw [c3]; rfl
        clear c1 c2 c3
        go_wp2_with fail
        go_meet
        exact ⟨_, rfl, hr, rfl⟩
      have h1 : ((((bsl o)[m]'hltb).toNat : Int) == 83) = false := by rw [HCB.out]; exact byte_ne c1
      have h2 : ((((bsl o)[m]'hltb).toNat : Int) == 84) = false := by rw [HCB.out]; exact byte_ne c2
      have h3 : ((((bsl o)[m]'hltb).toNat : Int) == 68) = false := by rw [HCB.out]; exact byte_ne c3
      have hr : Hid (false = isR c) := (isR_false c1 c2 c3).symm
      clear c1 c2 c3
      go_wp2_with fail
      go_meet
      exact ⟨_, rfl, hr, rfl⟩
    case rest =>
      obtain ⟨b, rfl, HBR, rfl⟩ := hcut
      go_upto_if 101 with fail
      go_cut [4, 12] from 102 to 113 (fun s4 s12 wx => s12 = .int .i64 (numR (opS c (s.drop p2)) s.length).1 ∧ s4 = .int .i64 (numR (opS c (s.drop p2)) s.length).2 ∧ wr = wx)
      case first =>
        cases b with
        | true =>
          have HX : Hid (opS c (s.drop p2) = scanReg (s.drop p2)) := by show _ = _; rw [opS, if_pos HBR.out.symm]
          go_wp2_with fail
          refine (register_at s hl p2 wr).mono ?_
          rintro e w' ⟨rfl, rfl⟩
          obtain ⟨nr, hnr⟩ : ∃ nr, numR (scanReg (s.drop p2)) s.length = nr := ⟨_, rfl⟩
          rw [hnr]
          have HNR := Lib.hid hnr
          clear hnr
          go_wp2_with fail
          go_meet
          rw [HX.out, HNR.out]
          exact ⟨rfl, rfl, rfl⟩
        | false =>
          have HX : Hid (opS c (s.drop p2) = scanNum (s.drop p2)) := by show _ = _; rw [opS, if_neg (by rw [← HBR.out]; decide)]
          go_wp2_with fail
          refine (number_at s hl p2 hp2s wr).mono ?_
          rintro e w' ⟨rfl, rfl⟩
          obtain ⟨nr, hnr⟩ : ∃ nr, numR (scanNum (s.drop p2)) s.length = nr := ⟨_, rfl⟩
          rw [hnr]
          have HNR := Lib.hid hnr
          clear hnr
          go_wp2_with fail
          go_meet
          rw [HX.out, HNR.out]
          exact ⟨rfl, rfl, rfl⟩
      case rest =>
        obtain ⟨rfl, rfl, rfl⟩ := hcut
        cases hX : opS c (s.drop p2) with
        | none =>
          have HRF : Hid (R = (insZ, 1)) := by show _ = _; rw [HRS3.out, opScan_none hX]
          clear hX
          have hn1 : (numR none s.length).2 = -1 := rfl
          rw [hn1]
          have HG := Lib.hid (Five.fill HRRK.out (.int .i64 0) (.int .i64 0) (.int .i64 0) (.int .i64 0) (.int .u32 0))
          have HFN := Lib.hid (below_fill HBWK.out (Nat.le_refl _) (.int .i64 0) (.int .i64 0) (.int .i64 0) (.int .i64 0) (.int .u32 0))
          obtain ⟨c0, c1, c2, c3, c4⟩ := Five.cells HRRK.out
          obtain ⟨g0, g1, g2, g3, g4⟩ := Five.free HRRK.out
          go_wp2_with fail
          all_goals
            change bodyPost _ _ _ _ _ (fill5 (wr) w.heap.size (.int .i64 0) (.int .i64 0) (.int .i64 0) (.int .i64 0) (.int .u32 0))
            clear c0 c1 c2 c3 c4 g0 g1 g2 g3 g4
            generalize fill5 (wr) w.heap.size (.int .i64 0) (.int .i64 0) (.int .i64 0) (.int .i64 0) (.int .u32 0) = W5 at *
            obtain ⟨q0, q1, q2, q3, q4⟩ := Five.cells HG.out
            exact bodyPost_ret (v := .tuple #[insV insZ, .int .i64 1]) (by simp [results, Tryz.f13, go_sem, q0, q1, q2, q3, q4]) rfl ⟨by rw [HRF.out]; rfl, HFN.out⟩
        | some vu =>
        obtain ⟨v, u⟩ := vu
        obtain ⟨hv1, hv2⟩ := opS_bound hX
        have HV := Lib.hid (And.intro hv1 hv2)
        obtain ⟨q, hq⟩ := opS_suf hX
        obtain ⟨hd1, hd2, hd3⟩ := drop_suf (r := []) hq hp2s
        have HX := Lib.hid hX
        obtain ⟨p3, hp3⟩ : ∃ p3, s.length - u.length = p3 := ⟨_, rfl⟩
        have hn1 : (numR (some (v, u)) s.length).1 = v := rfl
        have hn2 : (numR (some (v, u)) s.length).2 = (p3 : Int) := by show (s.length : Int) - (u.length : Int) = _; go_light; omega
        have hp3s : p3 ≤ s.length := by go_light; omega
        rw [hn1, hn2]
        rw [hp3] at hd1
        have HD := Lib.hid hd1
        clear hX hq hd1 hd2 hd3 hn1 hn2 hp3
        have hlk : ¬ (p3 : Int) < 0 := by go_light; omega
        go_upto_block 6 with fail
        go_cut [13, 14] from 114 to 153 (fun s13 s14 wx => s13 = .int .i64 (bndM c).1 ∧ s14 = .int .i64 (bndM c).2 ∧ Hid (InsAt wx ib (setF i' c v)) ∧ Hid (Below ib w1 wx))
        case first =>
          obtain ⟨x0, x1, x2, x3, x4⟩ := Five.cells HIK.out
          obtain ⟨f0, f1, f2, f3, f4⟩ := Five.free HIK.out
          rcases letters_are HCM.out with hc | hc | hc | hc | hc | hc | hc | hc
          · skip
            have e83 : ((((bsl o)[m]'hltb).toNat : Int) == 83) = true := by rw [HCB.out, hc]; rfl
            have HC := Lib.hid hc
            clear hc
            go_wp2_with fail
            go_meet
            exact ⟨by rw [HC.out]; rfl, by rw [HC.out]; rfl, by show InsAt _ _ _; rw [HC.out, setF_83]; exact InsAt.set1 HIK.out v, HBK.out.setCell (Nat.le_refl _) _⟩
          · skip
            have e83 : ((((bsl o)[m]'hltb).toNat : Int) == 83) = false := by rw [HCB.out, hc]; rfl
            have e84 : ((((bsl o)[m]'hltb).toNat : Int) == 84) = true := by rw [HCB.out, hc]; rfl
            have HC := Lib.hid hc
            clear hc
            go_wp2_with fail
            go_meet
            exact ⟨by rw [HC.out]; rfl, by rw [HC.out]; rfl, by show InsAt _ _ _; rw [HC.out, setF_84]; exact InsAt.set2 HIK.out v, HBK.out.setCell (Nat.le_refl _) _⟩
          · skip
            have e83 : ((((bsl o)[m]'hltb).toNat : Int) == 83) = false := by rw [HCB.out, hc]; rfl
            have e84 : ((((bsl o)[m]'hltb).toNat : Int) == 84) = false := by rw [HCB.out, hc]; rfl
            have e68 : ((((bsl o)[m]'hltb).toNat : Int) == 68) = true := by rw [HCB.out, hc]; rfl
            have HC := Lib.hid hc
            clear hc
            go_wp2_with fail
            go_meet
            exact ⟨by rw [HC.out]; rfl, by rw [HC.out]; rfl, by show InsAt _ _ _; rw [HC.out, setF_68]; exact InsAt.set3 HIK.out v, HBK.out.setCell (Nat.le_refl _) _⟩
          · skip
            have e83 : ((((bsl o)[m]'hltb).toNat : Int) == 83) = false := by rw [HCB.out, hc]; rfl
            have e84 : ((((bsl o)[m]'hltb).toNat : Int) == 84) = false := by rw [HCB.out, hc]; rfl
            have e68 : ((((bsl o)[m]'hltb).toNat : Int) == 68) = false := by rw [HCB.out, hc]; rfl
            have e110 : ((((bsl o)[m]'hltb).toNat : Int) == 110) = true := by rw [HCB.out, hc]; rfl
            have HC := Lib.hid hc
            clear hc
            go_wp2_with fail
            go_meet
            exact ⟨by rw [HC.out]; rfl, by rw [HC.out]; rfl, by show InsAt _ _ _; rw [HC.out, setF_110, ← word16 v]; exact InsAt.set4 HIK.out _, HBK.out.setCell (Nat.le_refl _) _⟩
          · skip
            have e83 : ((((bsl o)[m]'hltb).toNat : Int) == 83) = false := by rw [HCB.out, hc]; rfl
            have e84 : ((((bsl o)[m]'hltb).toNat : Int) == 84) = false := by rw [HCB.out, hc]; rfl
            have e68 : ((((bsl o)[m]'hltb).toNat : Int) == 68) = false := by rw [HCB.out, hc]; rfl
            have e110 : ((((bsl o)[m]'hltb).toNat : Int) == 110) = false := by rw [HCB.out, hc]; rfl
            have e109 : ((((bsl o)[m]'hltb).toNat : Int) == 109) = true := by rw [HCB.out, hc]; rfl
            have HC := Lib.hid hc
            clear hc
            go_wp2_with fail
            go_meet
            exact ⟨by rw [HC.out]; rfl, by rw [HC.out]; rfl, by show InsAt _ _ _; rw [HC.out, setF_109, ← word16 v]; exact InsAt.set4 HIK.out _, HBK.out.setCell (Nat.le_refl _) _⟩
          · skip
            have e83 : ((((bsl o)[m]'hltb).toNat : Int) == 83) = false := by rw [HCB.out, hc]; rfl
            have e84 : ((((bsl o)[m]'hltb).toNat : Int) == 84) = false := by rw [HCB.out, hc]; rfl
            have e68 : ((((bsl o)[m]'hltb).toNat : Int) == 68) = false := by rw [HCB.out, hc]; rfl
            have e110 : ((((bsl o)[m]'hltb).toNat : Int) == 110) = false := by rw [HCB.out, hc]; rfl
            have e109 : ((((bsl o)[m]'hltb).toNat : Int) == 109) = false := by rw [HCB.out, hc]; rfl
            have e117 : ((((bsl o)[m]'hltb).toNat : Int) == 117) = false := by rw [HCB.out, hc]; rfl
            have e106 : ((((bsl o)[m]'hltb).toNat : Int) == 106) = false := by rw [HCB.out, hc]; rfl
            have HC := Lib.hid hc
            clear hc
            go_wp2_with fail
            refine (word_any v (Int.le_trans (by decide) HV.out.1) (Int.le_trans HV.out.2 (by decide)) _).mono ?_
            rintro e w' ⟨rfl, rfl⟩
            go_wp2_with fail
            go_meet
            exact ⟨by rw [HC.out]; rfl, by rw [HC.out]; rfl, by show InsAt _ _ _; rw [HC.out, setF_97]; exact InsAt.set4 HIK.out _, HBK.out.setCell (Nat.le_refl _) _⟩
          · skip
            have e83 : ((((bsl o)[m]'hltb).toNat : Int) == 83) = false := by rw [HCB.out, hc]; rfl
            have e84 : ((((bsl o)[m]'hltb).toNat : Int) == 84) = false := by rw [HCB.out, hc]; rfl
            have e68 : ((((bsl o)[m]'hltb).toNat : Int) == 68) = false := by rw [HCB.out, hc]; rfl
            have e110 : ((((bsl o)[m]'hltb).toNat : Int) == 110) = false := by rw [HCB.out, hc]; rfl
            have e109 : ((((bsl o)[m]'hltb).toNat : Int) == 109) = false := by rw [HCB.out, hc]; rfl
            have e117 : ((((bsl o)[m]'hltb).toNat : Int) == 117) = true := by rw [HCB.out, hc]; rfl
            have HC := Lib.hid hc
            clear hc
            go_wp2_with fail
            refine (word_any v (Int.le_trans (by decide) HV.out.1) (Int.le_trans HV.out.2 (by decide)) _).mono ?_
            rintro e w' ⟨rfl, rfl⟩
            go_wp2_with fail
            go_meet
            exact ⟨by rw [HC.out]; rfl, by rw [HC.out]; rfl, by show InsAt _ _ _; rw [HC.out, setF_117]; exact InsAt.set4 HIK.out _, HBK.out.setCell (Nat.le_refl _) _⟩
          · skip
            have e83 : ((((bsl o)[m]'hltb).toNat : Int) == 83) = false := by rw [HCB.out, hc]; rfl
            have e84 : ((((bsl o)[m]'hltb).toNat : Int) == 84) = false := by rw [HCB.out, hc]; rfl
            have e68 : ((((bsl o)[m]'hltb).toNat : Int) == 68) = false := by rw [HCB.out, hc]; rfl
            have e110 : ((((bsl o)[m]'hltb).toNat : Int) == 110) = false := by rw [HCB.out, hc]; rfl
            have e109 : ((((bsl o)[m]'hltb).toNat : Int) == 109) = false := by rw [HCB.out, hc]; rfl
            have e117 : ((((bsl o)[m]'hltb).toNat : Int) == 117) = false := by rw [HCB.out, hc]; rfl
            have e106 : ((((bsl o)[m]'hltb).toNat : Int) == 106) = true := by rw [HCB.out, hc]; rfl
            have HC := Lib.hid hc
            clear hc
            go_wp2_with fail
            refine (word_any v (Int.le_trans (by decide) HV.out.1) (Int.le_trans HV.out.2 (by decide)) _).mono ?_
            rintro e w' ⟨rfl, rfl⟩
            go_wp2_with fail
            go_meet
            exact ⟨by rw [HC.out]; rfl, by rw [HC.out]; rfl, by show InsAt _ _ _; rw [HC.out, setF_106]; exact InsAt.set4 HIK.out _, HBK.out.setCell (Nat.le_refl _) _⟩
        case rest =>
          rename World => wk
          obtain ⟨rfl, rfl, HIK2, HBK2⟩ := hcut
          clear HIK HBK HRRK HBWK
          have HRRK := Lib.hid (HR1.out.below HBK2.out HIB.out)
          have HBWK := Lib.hid (HB1.out.trans (HBK2.out.mono (Nat.le_of_lt HIB.out)))
          obtain ⟨ba, hba⟩ : ∃ ba, (bndM c).1 = ba := ⟨_, rfl⟩
          obtain ⟨bb, hbb⟩ : ∃ bb, (bndM c).2 = bb := ⟨_, rfl⟩
          have HBA := Lib.hid hba
          have HBB := Lib.hid hbb
          rw [hba, hbb]
          clear hba hbb
          go_upto_region 53 with fail
          go_cut [161] from 154 to 161 (fun s161 wx => s161 = .bool (decide (v < ba) || decide (bb < v)) ∧ wk = wx)
          case first =>
            by_cases ha : v < ba
            · have e : (decide (v < ba) || decide (bb < v)) = true := by rw [decide_eq_true ha]; rfl
              have HE := Lib.hid e
              clear e
              go_wp2_with fail
              go_meet
              exact ⟨congrArg Value.bool HE.out.symm, rfl⟩
            · have e : (decide (v < ba) || decide (bb < v)) = decide (bb < v) := by rw [decide_eq_false ha]; rfl
              have HE := Lib.hid e
              clear e
              go_wp2_with fail
              go_meet
              exact ⟨congrArg Value.bool HE.out.symm, rfl⟩
          case rest =>
            obtain ⟨rfl, rfl⟩ := hcut
            obtain ⟨g, hg⟩ : ∃ g, (decide (v < ba) || decide (bb < v)) = g := ⟨_, rfl⟩
            have HG0 := Lib.hid hg
            rw [hg]
            clear hg
            go_upto_if 161 with fail
            go_cut [9] from 154 to 161 (fun s9 wx => s9 = .bool (f || g) ∧ wk = wx)
            case first =>
              cases g with
              | true =>
                go_wp2_with fail
                go_meet
                exact ⟨congrArg Value.bool (Bool.or_true f).symm, rfl⟩
              | false =>
                go_wp2_with fail
                go_meet
                exact ⟨congrArg Value.bool (Bool.or_false f).symm, rfl⟩
            case rest =>
              obtain ⟨rfl, rfl⟩ := hcut
              go_upto_if 165 with fail
              by_cases hcn : c ≠ 109
              · have e109 : ((((bsl o)[m]'hltb).toNat : Int) == 109) = false := by rw [HCB.out]; exact byte_ne hcn
                have HRE : Hid (R = refOps false o2 (setF i' c v) (f || g) (s.drop p3)) := by
                  show _ = _
                  rw [HRS3.out, opScan_some hcn HX.out, HBA.out, HBB.out, HG0.out, HD.out]
                clear hcn
                go_wp2_with fail
                exact HK.out _ _ _ _ _ _ _ _ _ _ _ _ _ _ _ _ _ _ _ _ _ _ _ _ _ _ _ _ _ _ _ _ _ _ _ _ _ _ _ _ _ _ _ _ _ _ _ _ _ _ _ _ _ _ _ _ _ _ _ _ _ _ _ _ _ _ _ _ _ _ _ _ _ _ _ _ _ _ _ _ _ _ _ _ _ _ _ _ _ _ _ _ _ _ _ _ _ _ _ _ _ _ _ _ _ _ _ _ _ _ _ _ _ _ _ _ _ _ _ _ _ _ _ _ _ _ _ _ _ _ _ _ _ _ _ _ _ _ _ _ _ _ _ _ _ _ _ p3 (f || g) _ _ rfl rfl hp3s HIK2 HBK2 HRE
              have hcm : c = 109 := Classical.not_not.1 hcn
              have e109 : ((((bsl o)[m]'hltb).toNat : Int) == 109) = true := by rw [HCB.out, hcm]; rfl
              have hXm : opS 109 (s.drop p2) = some (v, u) := hcm ▸ HX.out
              have HRM : Hid (R = match opScan i' 109 (s.drop p2) with
                | none => (insZ, 1)
                | some (x, g, u) => refOps false o2 x (f || g) u) := by show _ = _; rw [HRS3.out, hcm]
              have HIK3 : Hid (InsAt wk ib ⟨i'.op, i'.s, i'.t, i'.d, v % 65536⟩) := by
                have h := HIK2.out
                rw [hcm, setF_109] at h
                exact h
              have HGM : Hid ((decide (v < (bndM 109).1) || decide ((bndM 109).2 < v)) = g) := by
                show _ = _
                rw [← HG0.out, ← HBA.out, ← HBB.out, hcm]
              have HXM := Lib.hid hXm
              clear hcn hcm hXm HRS3
              by_cases h1 : s.length ≤ p3
              · have h1' : (s.length : Int) ≤ (p3 : Int) := by go_light; omega
                have HRF : Hid (R = (insZ, 1)) := by
                  show _ = _
                  have hu : u = [] := by rw [← HD.out]; exact List.drop_eq_nil_of_le h1
                  rw [HRM.out, opScan_m HXM.out, hu]
                  rfl
                clear h1
                have HG := Lib.hid (Five.fill HRRK.out (.int .i64 0) (.int .i64 0) (.int .i64 0) (.int .i64 0) (.int .u32 0))
                have HFN := Lib.hid (below_fill HBWK.out (Nat.le_refl _) (.int .i64 0) (.int .i64 0) (.int .i64 0) (.int .i64 0) (.int .u32 0))
                obtain ⟨c0, c1, c2, c3, c4⟩ := Five.cells HRRK.out
                obtain ⟨g0, g1, g2, g3, g4⟩ := Five.free HRRK.out
                go_wp2_with fail
                all_goals
                  change bodyPost _ _ _ _ _ (fill5 (wk) w.heap.size (.int .i64 0) (.int .i64 0) (.int .i64 0) (.int .i64 0) (.int .u32 0))
                  clear c0 c1 c2 c3 c4 g0 g1 g2 g3 g4
                  generalize fill5 (wk) w.heap.size (.int .i64 0) (.int .i64 0) (.int .i64 0) (.int .i64 0) (.int .u32 0) = W5 at *
                  obtain ⟨q0, q1, q2, q3, q4⟩ := Five.cells HG.out
                  exact bodyPost_ret (v := .tuple #[insV insZ, .int .i64 1]) (by simp [results, Tryz.f13, go_sem, q0, q1, q2, q3, q4]) rfl ⟨by rw [HRF.out]; rfl, HFN.out⟩
              have h1' : (p3 : Int) < (s.length : Int) := by go_light; omega
              have hp3l : p3 < s.length := by go_light; omega
              have hpb : p3 < (bsl s).size := by go_light; omega
              obtain ⟨d0, hd0⟩ : ∃ d0, s[p3]'hp3l = d0 := ⟨_, rfl⟩
              have hbd : (bsl s)[p3]'hpb = d0 := by rw [bsl_get]; exact hd0
              have HBD := Lib.hid hbd
              obtain ⟨u3, hu3⟩ : ∃ u3, s.drop (p3 + 1) = u3 := ⟨_, rfl⟩
              have huc : u = d0 :: u3 := by rw [← HD.out, ← hu3, ← hd0]; exact List.drop_eq_getElem_cons hp3l
              have HUC := Lib.hid huc
              have HU3 := Lib.hid hu3
              clear h1 hd0 hbd huc hu3
              by_cases h40 : d0 ≠ 40
              · have e40 : ((((bsl s)[p3]'hpb).toNat : Int) == 40) = false := by rw [HBD.out]; exact byte_ne h40
                have HRF : Hid (R = (insZ, 1)) := by
                  show _ = _
                  rw [HRM.out, opScan_m HXM.out, HUC.out, if_neg (by simpa using h40)]
                clear h40
                have HG := Lib.hid (Five.fill HRRK.out (.int .i64 0) (.int .i64 0) (.int .i64 0) (.int .i64 0) (.int .u32 0))
                have HFN := Lib.hid (below_fill HBWK.out (Nat.le_refl _) (.int .i64 0) (.int .i64 0) (.int .i64 0) (.int .i64 0) (.int .u32 0))
                obtain ⟨c0, c1, c2, c3, c4⟩ := Five.cells HRRK.out
                obtain ⟨g0, g1, g2, g3, g4⟩ := Five.free HRRK.out
                go_wp2_with fail
                all_goals
                  change bodyPost _ _ _ _ _ (fill5 (wk) w.heap.size (.int .i64 0) (.int .i64 0) (.int .i64 0) (.int .i64 0) (.int .u32 0))
                  clear c0 c1 c2 c3 c4 g0 g1 g2 g3 g4
                  generalize fill5 (wk) w.heap.size (.int .i64 0) (.int .i64 0) (.int .i64 0) (.int .i64 0) (.int .u32 0) = W5 at *
                  obtain ⟨q0, q1, q2, q3, q4⟩ := Five.cells HG.out
                  exact bodyPost_ret (v := .tuple #[insV insZ, .int .i64 1]) (by simp [results, Tryz.f13, go_sem, q0, q1, q2, q3, q4]) rfl ⟨by rw [HRF.out]; rfl, HFN.out⟩
              have h40' : d0 = 40 := Classical.not_not.1 h40
              have e40 : ((((bsl s)[p3]'hpb).toNat : Int) == 40) = true := by rw [HBD.out, h40']; rfl
              have HRN : Hid (R = match (match scanReg u3 with
                | none => none
                | some (k, w) => if w.head? = some 41 then some ((⟨i'.op, k, i'.t, i'.d, v % 65536⟩ : InsN), g || decide (31 < k), w.drop 1) else none) with
                | none => (insZ, 1)
                | some (x, g, u) => refOps false o2 x (f || g) u) := by
                show _ = _
                rw [HRM.out, opScan_m HXM.out, HUC.out, h40', if_pos (show (40 :: u3 : List UInt8).head? = some 40 from rfl), HGM.out]
                rfl
              clear h40 h40' HRM
              have hrg := register_at s hl (p3 + 1) wk
              rw [HU3.out, show ((p3 + 1 : Nat) : Int) = (p3 : Int) + 1 from by go_light; omega] at hrg
              have HRG := Lib.hid hrg
              clear hrg
              cases hY : scanReg u3 with
              | none =>
                have HRF : Hid (R = (insZ, 1)) := by show _ = _; rw [HRN.out, hY]
                have hr := HRG.out
                rw [hY] at hr
                have HRG := Lib.hid hr
                clear hY hr
                go_wp2_with fail
                refine HRG.out.mono ?_
                rintro e w' ⟨rfl, rfl⟩
                have hn1 : (numR none s.length).2 = -1 := rfl
                rw [hn1]
                have HG := Lib.hid (Five.fill HRRK.out (.int .i64 0) (.int .i64 0) (.int .i64 0) (.int .i64 0) (.int .u32 0))
                have HFN := Lib.hid (below_fill HBWK.out (Nat.le_refl _) (.int .i64 0) (.int .i64 0) (.int .i64 0) (.int .i64 0) (.int .u32 0))
                obtain ⟨c0, c1, c2, c3, c4⟩ := Five.cells HRRK.out
                obtain ⟨g0, g1, g2, g3, g4⟩ := Five.free HRRK.out
                go_wp2_with fail
                all_goals
                  change bodyPost _ _ _ _ _ (fill5 (wk) w.heap.size (.int .i64 0) (.int .i64 0) (.int .i64 0) (.int .i64 0) (.int .u32 0))
                  clear c0 c1 c2 c3 c4 g0 g1 g2 g3 g4
                  generalize fill5 (wk) w.heap.size (.int .i64 0) (.int .i64 0) (.int .i64 0) (.int .i64 0) (.int .u32 0) = W5 at *
                  obtain ⟨q0, q1, q2, q3, q4⟩ := Five.cells HG.out
                  exact bodyPost_ret (v := .tuple #[insV insZ, .int .i64 1]) (by simp [results, Tryz.f13, go_sem, q0, q1, q2, q3, q4]) rfl ⟨by rw [HRF.out]; rfl, HFN.out⟩
              | some ku =>
              obtain ⟨k2, u2⟩ := ku
              have hr := HRG.out
              rw [hY] at hr
              obtain ⟨hk1, hk2⟩ := scanReg_bound hY
              obtain ⟨q, hq⟩ := scanReg_suf hY
              rw [← HU3.out] at hq
              obtain ⟨hd1, hd2, hd3⟩ := drop_suf (r := []) hq (by go_light; omega)
              obtain ⟨p4, hp4⟩ : ∃ p4, s.length - u2.length = p4 := ⟨_, rfl⟩
              have hn1 : (numR (some (k2, u2)) s.length).1 = k2 := rfl
              have hn2 : (numR (some (k2, u2)) s.length).2 = (p4 : Int) := by show (s.length : Int) - (u2.length : Int) = _; go_light; omega
              have hp4s : p4 ≤ s.length := by go_light; omega
              rw [hn1, hn2] at hr
              rw [hp4] at hd1
              have HRG2 := Lib.hid hr
              have HD4 := Lib.hid hd1
              have HRO : Hid (R = match (if u2.head? = some 41 then some ((⟨i'.op, k2, i'.t, i'.d, v % 65536⟩ : InsN), g || decide (31 < k2), u2.drop 1) else none) with
                | none => (insZ, 1)
                | some (x, g, u) => refOps false o2 x (f || g) u) := by show _ = _; rw [HRN.out, hY]
              clear hY hr hq hd1 hd2 hd3 hn1 hn2 hp4 HRN HRG
              have hlk4 : ¬ (p4 : Int) < 0 := by go_light; omega
              go_upto_if 174 with fail
              go_wp2_with fail
              refine HRG2.out.mono ?_
              rintro e w' ⟨rfl, rfl⟩
              clear HRG2
              by_cases h4 : s.length ≤ p4
              · have h4' : (s.length : Int) ≤ (p4 : Int) := by go_light; omega
                have HRF : Hid (R = (insZ, 1)) := by
                  show _ = _
                  have hu : u2 = [] := by rw [← HD4.out]; exact List.drop_eq_nil_of_le h4
                  rw [HRO.out, hu]
                  rfl
                clear h4
                have HG := Lib.hid (Five.fill HRRK.out (.int .i64 0) (.int .i64 0) (.int .i64 0) (.int .i64 0) (.int .u32 0))
                have HFN := Lib.hid (below_fill HBWK.out (Nat.le_refl _) (.int .i64 0) (.int .i64 0) (.int .i64 0) (.int .i64 0) (.int .u32 0))
                obtain ⟨c0, c1, c2, c3, c4⟩ := Five.cells HRRK.out
                obtain ⟨g0, g1, g2, g3, g4⟩ := Five.free HRRK.out
                go_wp2_with fail
                all_goals
                  change bodyPost _ _ _ _ _ (fill5 (wk) w.heap.size (.int .i64 0) (.int .i64 0) (.int .i64 0) (.int .i64 0) (.int .u32 0))
                  clear c0 c1 c2 c3 c4 g0 g1 g2 g3 g4
                  generalize fill5 (wk) w.heap.size (.int .i64 0) (.int .i64 0) (.int .i64 0) (.int .i64 0) (.int .u32 0) = W5 at *
                  obtain ⟨q0, q1, q2, q3, q4⟩ := Five.cells HG.out
                  exact bodyPost_ret (v := .tuple #[insV insZ, .int .i64 1]) (by simp [results, Tryz.f13, go_sem, q0, q1, q2, q3, q4]) rfl ⟨by rw [HRF.out]; rfl, HFN.out⟩
              have h4' : (p4 : Int) < (s.length : Int) := by go_light; omega
              have hp4l : p4 < s.length := by go_light; omega
              have hpb4 : p4 < (bsl s).size := by go_light; omega
              obtain ⟨d1, hd1⟩ : ∃ d1, s[p4]'hp4l = d1 := ⟨_, rfl⟩
              have hbd : (bsl s)[p4]'hpb4 = d1 := by rw [bsl_get]; exact hd1
              have HBD1 := Lib.hid hbd
              have huc : u2 = d1 :: s.drop (p4 + 1) := by rw [← HD4.out, ← hd1]; exact List.drop_eq_getElem_cons hp4l
              have HUC4 := Lib.hid huc
              clear h4 hd1 hbd huc
              by_cases h41 : d1 ≠ 41
              · have e41 : ((((bsl s)[p4]'hpb4).toNat : Int) == 41) = false := by rw [HBD1.out]; exact byte_ne h41
                have HRF : Hid (R = (insZ, 1)) := by
                  show _ = _
                  rw [HRO.out, HUC4.out, if_neg (by simpa using h41)]
                clear h41
                have HG := Lib.hid (Five.fill HRRK.out (.int .i64 0) (.int .i64 0) (.int .i64 0) (.int .i64 0) (.int .u32 0))
                have HFN := Lib.hid (below_fill HBWK.out (Nat.le_refl _) (.int .i64 0) (.int .i64 0) (.int .i64 0) (.int .i64 0) (.int .u32 0))
                obtain ⟨c0, c1, c2, c3, c4⟩ := Five.cells HRRK.out
                obtain ⟨g0, g1, g2, g3, g4⟩ := Five.free HRRK.out
                go_wp2_with fail
                all_goals
                  change bodyPost _ _ _ _ _ (fill5 (wk) w.heap.size (.int .i64 0) (.int .i64 0) (.int .i64 0) (.int .i64 0) (.int .u32 0))
                  clear c0 c1 c2 c3 c4 g0 g1 g2 g3 g4
                  generalize fill5 (wk) w.heap.size (.int .i64 0) (.int .i64 0) (.int .i64 0) (.int .i64 0) (.int .u32 0) = W5 at *
                  obtain ⟨q0, q1, q2, q3, q4⟩ := Five.cells HG.out
                  exact bodyPost_ret (v := .tuple #[insV insZ, .int .i64 1]) (by simp [results, Tryz.f13, go_sem, q0, q1, q2, q3, q4]) rfl ⟨by rw [HRF.out]; rfl, HFN.out⟩
              have h41' : d1 = 41 := Classical.not_not.1 h41
              have e41 : ((((bsl s)[p4]'hpb4).toNat : Int) == 41) = true := by rw [HBD1.out, h41']; rfl
              have HRE : Hid (R = refOps false o2 ⟨i'.op, k2, i'.t, i'.d, v % 65536⟩ (f || (g || decide (31 < k2))) (s.drop (p4 + 1))) := by
                show _ = _
                rw [HRO.out, HUC4.out, h41', if_pos (show (41 :: s.drop (p4 + 1) : List UInt8).head? = some 41 from rfl)]
                rfl
              clear h41 h41' HRO
              obtain ⟨x0, x1, x2, x3, x4⟩ := Five.cells HIK3.out
              obtain ⟨f0, f1, f2, f3, f4⟩ := Five.free HIK3.out
              have HP4 : Hid (p4 + 1 ≤ s.length) := hp4l
              by_cases h31 : 31 < k2
              · have HF : Hid (Value.bool true = .bool (f || (g || decide (31 < k2)))) := by show _ = _; rw [decide_eq_true h31, Bool.or_true, Bool.or_true]
                go_wp2_with fail
                exact HK.out _ _ _ _ _ _ _ _ _ _ _ _ _ _ _ _ _ _ _ _ _ _ _ _ _ _ _ _ _ _ _ _ _ _ _ _ _ _ _ _ _ _ _ _ _ _ _ _ _ _ _ _ _ _ _ _ _ _ _ _ _ _ _ _ _ _ _ _ _ _ _ _ _ _ _ _ _ _ _ _ _ _ _ _ _ _ _ _ _ _ _ _ _ _ _ _ _ _ _ _ _ _ _ _ _ _ _ _ _ _ _ _ _ _ _ _ _ _ _ _ _ _ _ _ _ _ _ _ _ _ _ _ _ _ _ _ _ _ _ _ _ _ _ _ _ _ _ (p4 + 1) (f || (g || decide (31 < k2))) ⟨i'.op, k2, i'.t, i'.d, v % 65536⟩ _ rfl HF.out HP4.out (InsAt.set1 HIK3.out k2) (HBK2.out.setCell (Nat.le_refl _) _) HRE
              · have HF : Hid (Value.bool (f || g) = .bool (f || (g || decide (31 < k2)))) := by show _ = _; rw [decide_eq_false h31, Bool.or_false]
                go_wp2_with fail
                exact HK.out _ _ _ _ _ _ _ _ _ _ _ _ _ _ _ _ _ _ _ _ _ _ _ _ _ _ _ _ _ _ _ _ _ _ _ _ _ _ _ _ _ _ _ _ _ _ _ _ _ _ _ _ _ _ _ _ _ _ _ _ _ _ _ _ _ _ _ _ _ _ _ _ _ _ _ _ _ _ _ _ _ _ _ _ _ _ _ _ _ _ _ _ _ _ _ _ _ _ _ _ _ _ _ _ _ _ _ _ _ _ _ _ _ _ _ _ _ _ _ _ _ _ _ _ _ _ _ _ _ _ _ _ _ _ _ _ _ _ _ _ _ _ _ _ _ _ _ (p4 + 1) (f || (g || decide (31 < k2))) ⟨i'.op, k2, i'.t, i'.d, v % 65536⟩ _ rfl HF.out HP4.out (InsAt.set1 HIK3.out k2) (HBK2.out.setCell (Nat.le_refl _) _) HRE
end Go.Proofs.YtnppegldebocmaaGreatDoor
namespace Go.Proofs.YtnppegldebocmaaGreatDoor
open Go.RowKit
set_option linter.unusedVariables false
def isReg (n : Nat) : Code → Bool
  | .region k _ _ => k == n
  | _ => false
/-- What stands behind region n in its sequence. -/
def behind (n : Nat) : Code → Option Code
  | .seq a b => if isReg n a = true then some b else match behind n a with
    | some c => some c
    | none => behind n b
  | .block _ c => behind n c
  | .cond _ a b => match behind n a with
    | some c => some c
    | none => behind n b
  | .loop c => behind n c
  | _ => none
noncomputable def behindOf (n : Nat) (f : Func) : Code := ((f.body.bind (behind n)).getD .skip)
set_option maxHeartbeats 4000000 in
set_option maxRecDepth 1000000 in
theorem pof_tail (s o : List UInt8) (hl : s.length ≤ 100) (p0 : Nat) (R : InsN × Nat) (i0 : InsN) (w w1 w2 : World) (ib : Nat)
    (hp0 : p0 ≤ s.length) (hol : o.length ≤ 3) (hoL : ∀ c ∈ o, c ∈ opLetters)
    (hib : w.heap.size < ib) (HR1 : Hid (InsAt w1 w.heap.size insZ)) (HB1 : Hid (Below w.heap.size w w1)) (HI0 : Hid (InsAt w2 ib i0)) (HB0 : Hid (Below ib w1 w2))
    (HR0 : Hid (R = refOps true o i0 false (s.drop p0))) (v1 v3 v5 v7 v10 v11 v12 v13 v14 v15 v16 v17 v18 v19 v20 v21 v22 v23 v24 v25 v26 v27 v28 v29 v30 v31 v32 v33 v34 v35 v36 v37 v38 v39 v40 v41 v42 v43 v44 v45 v46 v47 v48 v49 v50 v51 v52 v53 v54 v55 v56 v57 v58 v59 v60 v61 v62 v63 v64 v65 v66 v67 v68 v69 v70 v71 v72 v73 v74 v75 v76 v77 v78 v79 v80 v81 v82 v83 v84 v85 v86 v87 v88 v89 v90 v91 v92 v93 v94 v95 v96 v97 v98 v99 v100 v101 v102 v103 v104 v105 v106 v107 v108 v109 v110 v111 v112 v113 v114 v115 v116 v117 v118 v119 v120 v121 v122 v123 v124 v125 v126 v127 v128 v129 v130 v131 v132 v133 v134 v135 v136 v137 v138 v139 v140 v141 v142 v143 v144 v145 v146 v147 v148 v149 v150 v151 v152 v153 v154 v155 v156 v157 v158 v159 v160 v161 v162 v163 v164 v165 v166 v167 v168 v169 v170 v171 v172 v173 v174 v175 v176 v177 v178 v179 v180 v181 v182 v183 v184 v185 v186 v187 v188 v189 v190 v191 v192 v193 v194 v195 v196 v197 v198 v199 v200 v201 v202 v203 v204 v205 v206 v207 v208 v209 v210 : Value) :
    Code.wp Tryz.prog (behindOf 14 Tryz.f13) (pofQ w R) ⟨#[.string (bsl s), v1, .pointer (some ⟨w.heap.size, 0, none⟩), v3, .int .i64 (p0 : Int), v5, .pointer (some ⟨ib, 0, none⟩), v7, .string (bsl o), .bool false, v10, v11, v12, v13, v14, v15, v16, v17, v18, v19, v20, v21, v22, v23, v24, v25, v26, v27, v28, v29, v30, v31, v32, v33, v34, v35, v36, v37, v38, v39, v40, v41, v42, v43, v44, v45, v46, v47, v48, v49, v50, v51, v52, v53, v54, v55, v56, v57, v58, v59, v60, v61, v62, v63, v64, v65, v66, v67, v68, v69, v70, v71, v72, v73, v74, v75, v76, v77, v78, v79, v80, v81, v82, v83, v84, v85, v86, v87, v88, v89, v90, v91, v92, v93, v94, v95, v96, v97, v98, v99, v100, v101, v102, v103, v104, v105, v106, v107, v108, v109, v110, v111, v112, v113, v114, v115, v116, v117, v118, v119, v120, v121, v122, v123, v124, v125, v126, v127, v128, v129, v130, v131, v132, v133, v134, v135, v136, v137, v138, v139, v140, v141, v142, v143, v144, v145, v146, v147, v148, v149, v150, v151, v152, v153, v154, v155, v156, v157, v158, v159, v160, v161, v162, v163, v164, v165, v166, v167, v168, v169, v170, v171, v172, v173, v174, v175, v176, v177, v178, v179, v180, v181, v182, v183, v184, v185, v186, v187, v188, v189, v190, v191, v192, v193, v194, v195, v196, v197, v198, v199, v200, v201, v202, v203, v204, v205, v206, v207, v208, v209, v210], []⟩ w2 := by
  conv => arg 2; whnf
  have HIB : Hid (w.heap.size < ib) := hib
  have HOL := Lib.hid hoL
  have hsz := bsl_size s
  have hos := bsl_size o
  clear hib hoL
  go_wp2_with fail
  go_loopw [3, 4, 9, 10] (fun _ pv fv mv w3 => ∃ (m p : Nat) (f : Bool) (i' : InsN), m ≤ o.length ∧ p ≤ s.length ∧ mv = .int .i64 (m : Int) ∧ pv = .int .i64 (p : Int) ∧ fv = .bool f ∧ Hid (InsAt w3 ib i') ∧ Hid (Below ib w1 w3) ∧ Hid (R = refOps (decide (m = 0)) (o.drop m) i' f (s.drop p))) (fun _ _ _ mv _ => o.length - (intOf mv).toNat)
  case atStart => exact ⟨0, p0, false, i0, Nat.zero_le _, hp0, rfl, rfl, rfl, HI0, HB0, HR0⟩
  case round =>
    obtain ⟨m, p, f, i', hm, hp, rfl, rfl, rfl, HIK, HBK, HRK⟩ := hrel
    by_cases hlt3 : m < o.length
    · have hm' : (m : Int) < (o.length : Int) := by go_light; omega
      go_upto_block 5 with fail
      rename Act → World → Prop => K1
      refine wp_mono (pof_round s o hl m p f R i' w w1 wr ib hp hlt3 hol HOL.out HIB.out HR1 HB1 HIK HBK HRK _ _ _ _ _ _ _ _ _ _ _ _ _ _ _ _ _ _ _ _ _ _ _ _ _ _ _ _ _ _ _ _ _ _ _ _ _ _ _ _ _ _ _ _ _ _ _ _ _ _ _ _ _ _ _ _ _ _ _ _ _ _ _ _ _ _ _ _ _ _ _ _ _ _ _ _ _ _ _ _ _ _ _ _ _ _ _ _ _ _ _ _ _ _ _ _ _ _ _ _ _ _ _ _ _ _ _ _ _ _ _ _ _ _ _ _ _ _ _ _ _ _ _ _ _ _ _ _ _ _ _ _ _ _ _ _ _ _ _ _ _ _ _ _ _ _ _ _ _ _ _ _ _ _ _ _ _ _ _ _ _ _ _ _ _ _ _ _ _ _ _ _ _ _ _ _ _ _ _ _ _ _ _ _ _ _ _ _ _ _ _ _ _ _ _ _ _ _ _ _ _ _ _ _ K1 ?_) ?_
      · intro u4 u9 u11 u12 u13 u14 u62 u63 u64 u65 u66 u67 u68 u69 u70 u71 u72 u73 u74 u75 u76 u77 u78 u79 u80 u81 u82 u83 u84 u85 u86 u87 u88 u89 u90 u91 u92 u93 u94 u95 u96 u97 u98 u99 u100 u101 u102 u103 u104 u105 u106 u107 u108 u109 u110 u111 u112 u113 u114 u115 u116 u117 u118 u119 u120 u121 u122 u123 u124 u125 u126 u127 u128 u129 u130 u131 u132 u133 u134 u135 u136 u137 u138 u139 u140 u141 u142 u143 u144 u145 u146 u147 u148 u149 u150 u151 u152 u153 u154 u155 u156 u157 u158 u159 u160 u161 u162 u163 u164 u165 u166 u167 u168 u169 u170 u171 u172 u173 u174 u175 u176 u177 u178 u179 u180 u181 u182 u183 u184 u185 u186 u187 u188 u189 u190 u191 u192 u193 u194 u195 u196 u197 u198 u199 u200 u201 u202 p2 f2 i2 w' e4 e9 hp2 HI HB HR
        subst e4 e9
        go_wp2_with fail
        go_roundw
        case rel =>
          refine ⟨m + 1, p2, f2, i2, hlt3, hp2, by go_num, rfl, rfl, HI, HB, ?_⟩
          rw [decide_eq_false (Nat.succ_ne_zero m)]
          exact HR
        case measure => go_light; simp [intOf]; omega
      · intro e a' w' hq
        cases e with
        | normal => exact hq
        | ret => exact hq
        | panic ch => exact hq
        | outgrown => exact hq
        | exit id => exact False.elim hq
        | goto l => exact False.elim hq
    · have hmo : m = o.length := by go_light; omega
      have hm' : ¬ (m : Int) < (o.length : Int) := by go_light; omega
      have HRK2 : Hid (R = if s.drop p = [] then (if f = true then (insZ, 2) else (i', 0)) else (insZ, 1)) := by
        show _ = _
        rw [HRK.out, hmo, List.drop_length]
        rfl
      have HRRK := Lib.hid (HR1.out.below HBK.out HIB.out)
      have HBWK := Lib.hid (HB1.out.trans (HBK.out.mono (Nat.le_of_lt HIB.out)))
      clear hlt3 hmo HRK
      by_cases hpn : p ≠ s.length
      · have hne : ((p : Int) == (s.length : Int)) = false := beq_eq_false_iff_ne.2 (by go_light; omega)
        have HRF : Hid (R = (insZ, 1)) := by
          show _ = _
          rw [HRK2.out, if_neg (fun h => hpn (by have := congrArg List.length h; rw [List.length_drop] at this; simp at this; go_light; omega))]
        clear hpn
        have HG := Lib.hid (Five.fill HRRK.out (.int .i64 0) (.int .i64 0) (.int .i64 0) (.int .i64 0) (.int .u32 0))
        have HFN := Lib.hid (below_fill HBWK.out (Nat.le_refl _) (.int .i64 0) (.int .i64 0) (.int .i64 0) (.int .i64 0) (.int .u32 0))
        obtain ⟨c0, c1, c2, c3, c4⟩ := Five.cells HRRK.out
        obtain ⟨g0, g1, g2, g3, g4⟩ := Five.free HRRK.out
        go_wp2_with fail
        all_goals
          change bodyPost _ _ _ _ _ (fill5 (wr) w.heap.size (.int .i64 0) (.int .i64 0) (.int .i64 0) (.int .i64 0) (.int .u32 0))
          clear c0 c1 c2 c3 c4 g0 g1 g2 g3 g4
          generalize fill5 (wr) w.heap.size (.int .i64 0) (.int .i64 0) (.int .i64 0) (.int .i64 0) (.int .u32 0) = W5 at *
          obtain ⟨q0, q1, q2, q3, q4⟩ := Five.cells HG.out
          exact bodyPost_ret (v := .tuple #[insV insZ, .int .i64 1]) (by simp [results, Tryz.f13, go_sem, q0, q1, q2, q3, q4]) rfl ⟨by rw [HRF.out]; rfl, HFN.out⟩
      have hpe : p = s.length := Classical.not_not.1 hpn
      subst hpe
      have hdn : s.drop s.length = [] := List.drop_length
      clear hpn
      cases f with
      | true =>
        have HRF : Hid (R = (insZ, 2)) := by show _ = _; rw [HRK2.out, if_pos hdn, if_pos rfl]
        clear hdn
        have HG := Lib.hid (Five.fill HRRK.out (.int .i64 0) (.int .i64 0) (.int .i64 0) (.int .i64 0) (.int .u32 0))
        have HFN := Lib.hid (below_fill HBWK.out (Nat.le_refl _) (.int .i64 0) (.int .i64 0) (.int .i64 0) (.int .i64 0) (.int .u32 0))
        obtain ⟨c0, c1, c2, c3, c4⟩ := Five.cells HRRK.out
        obtain ⟨g0, g1, g2, g3, g4⟩ := Five.free HRRK.out
        go_wp2_with fail
        all_goals
          change bodyPost _ _ _ _ _ (fill5 (wr) w.heap.size (.int .i64 0) (.int .i64 0) (.int .i64 0) (.int .i64 0) (.int .u32 0))
          clear c0 c1 c2 c3 c4 g0 g1 g2 g3 g4
          generalize fill5 (wr) w.heap.size (.int .i64 0) (.int .i64 0) (.int .i64 0) (.int .i64 0) (.int .u32 0) = W5 at *
          obtain ⟨q0, q1, q2, q3, q4⟩ := Five.cells HG.out
          exact bodyPost_ret (v := .tuple #[insV insZ, .int .i64 2]) (by simp [results, Tryz.f13, go_sem, q0, q1, q2, q3, q4]) rfl ⟨by rw [HRF.out]; rfl, HFN.out⟩
      | false =>
        have HRR : Hid (R = (i', 0)) := by show _ = _; rw [HRK2.out, if_pos hdn, if_neg (by decide)]
        clear hdn
        have HG := Lib.hid (Five.fill HRRK.out (.int .i64 i'.op) (.int .i64 i'.s) (.int .i64 i'.t) (.int .i64 i'.d) (.int .u32 i'.imm))
        have HFN := Lib.hid (below_fill HBWK.out (Nat.le_refl _) (.int .i64 i'.op) (.int .i64 i'.s) (.int .i64 i'.t) (.int .i64 i'.d) (.int .u32 i'.imm))
        obtain ⟨x0, x1, x2, x3, x4⟩ := Five.cells HIK.out
        obtain ⟨c0, c1, c2, c3, c4⟩ := Five.cells HRRK.out
        obtain ⟨g0, g1, g2, g3, g4⟩ := Five.free HRRK.out
        go_wp2_with fail
        change bodyPost _ _ _ _ _ (fill5 wr w.heap.size (.int .i64 i'.op) (.int .i64 i'.s) (.int .i64 i'.t) (.int .i64 i'.d) (.int .u32 i'.imm))
        clear c0 c1 c2 c3 c4 g0 g1 g2 g3 g4 x0 x1 x2 x3 x4
        generalize fill5 wr w.heap.size (.int .i64 i'.op) (.int .i64 i'.s) (.int .i64 i'.t) (.int .i64 i'.d) (.int .u32 i'.imm) = W5 at *
        obtain ⟨q0, q1, q2, q3, q4⟩ := Five.cells HG.out
        exact bodyPost_ret (v := .tuple #[insV i', .int .i64 0]) (by simp [results, Tryz.f13, go_sem, q0, q1, q2, q3, q4]) rfl ⟨by rw [HRR.out]; rfl, HFN.out⟩
end Go.Proofs.YtnppegldebocmaaGreatDoor
namespace Go.Proofs.YtnppegldebocmaaGreatDoor
open Go.RowKit
set_option linter.unusedVariables false
set_option maxHeartbeats 4000000 in
set_option maxRecDepth 1000000 in
theorem parseOf_walk (s : List UInt8) (hl : s.length ≤ 100) (w : World) :
    Calls Tryz.prog 13 #[.string (bsl s)] w fun e w' => e = .returned (.tuple #[insV (refB s).1, .int .i64 (((refB s).2 : Nat) : Int)]) ∧ Below w.heap.size w w' := by
  have hsz := bsl_size s
  have HAT := Lib.hid (name_at s)
  have HEND := Lib.hid (name_end s)
  have HTK := Lib.hid (take_name_of s)
  have HREF : Hid (refB s = if nameN (nameOf s) = 0 then (insZ, 5) else refOps true (orderB (nameN (nameOf s))) ⟨(nameN (nameOf s) : Int), 0, 0, 0, 0⟩ false (s.drop (nameOf s).length)) := rfl
  have hnl : (nameOf s).length ≤ s.length := by
    have hp : nameOf s <+: s := List.takeWhile_prefix _
    exact hp.length_le
  have hnl0 := hnl
  generalize refB s = R at *
  generalize nameOf s = nm at *
  go_enter Tryz.func13, Tryz.ntmps13
  go_wp2_with fail
  have hR0 : InsAt (w.alloc (.cells #[.int .i64 0, .int .i64 0, .int .i64 0, .int .i64 0, .int .u32 0] 24)) w.heap.size insZ := Five.new w _ _ _ _ _ _
  have HB0 := Lib.hid ((Below.refl w.heap.size w).alloc (Nat.le_refl _) (.cells #[.int .i64 0, .int .i64 0, .int .i64 0, .int .i64 0, .int .u32 0] 24))
  have HR0 := Lib.hid hR0
  clear hR0
  generalize w.alloc (.cells #[.int .i64 0, .int .i64 0, .int .i64 0, .int .i64 0, .int .u32 0] 24) = w0 at *
  have hRB : Hid (w.heap.size < w0.heap.size) := HR0.out.lt
  go_loop [4] (fun kv => ∃ p : Nat, p ≤ nm.length ∧ kv = .int .i64 (p : Int)) (fun kv => nm.length - (intOf kv).toNat)
  case atStart => exact ⟨0, Nat.zero_le _, rfl⟩
  case round =>
    obtain ⟨p, hp, rfl⟩ := hrel
    by_cases hlt : p < nm.length
    · have hps : p < (bsl s).size := by omega
      have hp' : (p : Int) < (s.length : Int) := by omega
      have h32 : ((((bsl s)[p]'hps).toNat : Int) == 32) = false := by
        rw [bsl_get]
        exact beq_eq_false_iff_ne.2 fun e => HAT.out p hlt (by omega) (UInt8.toNat_inj.1 (by show _ = 32; omega))
      go_wp2
      go_round
      case rel => exact ⟨p + 1, by omega, by go_num⟩
      case measure => simp [intOf]; omega
    · have hpe : p = nm.length := by omega
      have HEE : Hid (¬ (p : Int) < (s.length : Int) ∨ ∃ h : p < (bsl s).size, ((((bsl s)[p]'h).toNat : Int) == 32) = true ∧ (p : Int) < (s.length : Int)) := by
        show _ ∨ _
        rcases HEND.out with e | ⟨h, e⟩
        · left; omega
        · right
          refine ⟨by omega, ?_, by omega⟩
          rw [bsl_get]
          have : s[p]'(by omega) = s[nm.length]'h := by congr 1
          rw [this, e]
          rfl
      subst hpe
      clear hlt hp
      rename_i K1 hK1 zz
      have hrest : Hid (∀ (v15 v16 v17 v18 v19 v20 v21 v22 v23 v24 v25 v26 : Value), K1 ⟨#[.string (bsl s), undef, .pointer (some ⟨w.heap.size, 0, none⟩), .int .i64 0, .int .i64 (nm.length : Int), undef, undef, undef, undef, undef, undef, undef, undef, undef, undef, v15, v16, v17, v18, v19, v20, v21, v22, v23, v24, v25, v26, undef, undef, undef, undef, undef, undef, undef, undef, undef, undef, undef, undef, undef, undef, undef, undef, undef, undef, undef, undef, undef, undef, undef, undef, undef, undef, undef, undef, undef, undef, undef, undef, undef, undef, undef, undef, undef, undef, undef, undef, undef, undef, undef, undef, undef, undef, undef, undef, undef, undef, undef, undef, undef, undef, undef, undef, undef, undef, undef, undef, undef, undef, undef, undef, undef, undef, undef, undef, undef, undef, undef, undef, undef, undef, undef, undef, undef, undef, undef, undef, undef, undef, undef, undef, undef, undef, undef, undef, undef, undef, undef, undef, undef, undef, undef, undef, undef, undef, undef, undef, undef, undef, undef, undef, undef, undef, undef, undef, undef, undef, undef, undef, undef, undef, undef, undef, undef, undef, undef, undef, undef, undef, undef, undef, undef, undef, undef, undef, undef, undef, undef, undef, undef, undef, undef, undef, undef, undef, undef, undef, undef, undef, undef, undef, undef, undef, undef, undef, undef, undef, undef, undef, undef, undef, undef, undef, undef, undef, undef, undef, undef, undef, undef, undef, undef, undef, undef, undef, undef, undef, undef, undef, undef, undef, undef, undef, undef, undef, undef, undef, undef, undef, undef, undef], []⟩ w0) := by
        intro v15 v16 v17 v18 v19 v20 v21 v22 v23 v24 v25 v26
        refine hK1 _ _ ?_
        clear HEE hK1
        go_wp2_with fail
        refine (rows_R w0).mono ?_
        rintro e w1 ⟨rb, rfl, hrb0, hrb1, hrows, hb1⟩
        have HR1 := Lib.hid (HR0.out.below hb1 HR0.out.lt)
        have HSW : Hid (w0.heap.size ≤ w1.heap.size) := hb1.size
        have HB1 := Lib.hid (HB0.out.trans (hb1.mono HB0.out.size))
        have hal := (Below.refl w1.heap.size w1).alloc (Nat.le_refl _) (.cells #[.int .i64 0, .int .i64 0, .int .i64 0, .int .i64 0, .int .u32 0] 24)
        have HI2 : Hid (InsAt (w1.alloc (.cells #[.int .i64 0, .int .i64 0, .int .i64 0, .int .i64 0, .int .u32 0] 24)) w1.heap.size insZ) := Five.new w1 _ _ _ _ _ _
        have HRS := Lib.hid hrows
        clear hb1 hrows
        go_wp2_with fail
        have hil : w1.heap.size < (w1.alloc (.cells #[.int .i64 0, .int .i64 0, .int .i64 0, .int .i64 0, .int .u32 0] 24)).heap.size := by simp
        have HAL := Lib.hid hal
        clear hal
        generalize w1.alloc (.cells #[.int .i64 0, .int .i64 0, .int .i64 0, .int .i64 0, .int .u32 0] 24) = w2 at *
        have HSI : Hid (w.heap.size ≤ w1.heap.size) := HB1.out.size
        generalize hib : w1.heap.size = ib at *
        have hex : (bsl s).extract 0 nm.length = bsl nm := by
          apply ByteArray.ext
          rw [ByteArray.data_extract]
          have h1 : (bsl s).data = s.toArray := rfl
          rw [h1]
          have h2 := HTK.out
          apply Array.ext'
          simp [bsl, h2]
        go_loopw [7] (fun kv wr => ∃ j : Nat, 1 ≤ j ∧ j ≤ 54 ∧ kv = .int .i64 (j : Int) ∧ Hid (InsAt wr ib ⟨((if nameN nm < j then nameN nm else 0 : Nat) : Int), 0, 0, 0, 0⟩) ∧ Below ib w1 wr) (fun kv _ => 54 - (intOf kv).toNat)
        case atStart => exact ⟨1, Nat.le_refl _, by decide, rfl, by show InsAt _ _ _; have e : ((if nameN nm < 1 then nameN nm else 0 : Nat) : Int) = 0 := (by split <;> omega); rw [e]; exact HI2.out, HAL.out⟩
        case round =>
          obtain ⟨j, hj1, hj2, rfl, HIJ, hbj⟩ := hrel
          have HBJ := Lib.hid hbj
          obtain ⟨x0, x1, x2, x3, x4⟩ := Five.cells HIJ.out
          obtain ⟨f0, f1, f2, f3, f4⟩ := Five.free HIJ.out
          by_cases hlt : j < 54
          · have r0 : wr.cell? ⟨rb, j * 6, none⟩ = some (.string (bsl (nameB j))) := (hbj.cell (by show rb < ib; omega)).trans (HRS.out j 0 _ hlt rfl)
            by_cases he : nameB j = nm
            · have HN := Lib.hid (nameN_hit nm j hj1 hlt he)
              rw [he] at r0
              clear he hbj
              go_wp2_with fail
              go_quiet (fail)
              go_wp2
              go_roundw
              case rel =>
                refine ⟨j + 1, by omega, by omega, by go_num, ?_, (blw_drewN HBJ.out _).setCell (Nat.le_refl _) _⟩
                show InsAt _ _ _
                rw [HN.out, if_pos (by omega)]
                exact InsAt.seto (w := wr.drewN _) HIJ.out _
              case measure => simp [intOf]; omega
            · have HN : Hid (((if nameN nm < j + 1 then nameN nm else 0 : Nat) : Int) = ((if nameN nm < j then nameN nm else 0 : Nat) : Int)) := by
                show _ = _
                have hne : nameN nm ≠ j := fun e => he (by have := nameN_spec nm (by omega); rw [e] at this; exact this)
                by_cases hq : nameN nm < j
                · rw [if_pos hq, if_pos (by omega)]
                · rw [if_neg hq, if_neg (by omega)]
              have hne : ((bsl (nameB j)).toList == (bsl nm).toList) = false := by
                rw [bsl_l2, bsl_l2]
                exact beq_eq_false_iff_ne.2 he
              clear he hbj
              generalize bsl (nameB j) = ns at *
              go_wp2_with fail
              go_quiet (fail)
              go_wp2
              go_roundw
              case rel =>
                refine ⟨j + 1, by omega, by omega, by go_num, ?_, blw_drewN HBJ.out _⟩
                show InsAt _ _ _
                rw [HN.out]
                exact HIJ.out
              case measure => simp [intOf]; omega
          · have hnl := nameN_lt nm
            have hj : j = 54 := by omega
            have hI3 := HIJ.out
            rw [if_pos (by omega)] at hI3
            have HI3 := Lib.hid hI3
            clear x0 x1 x2 x3 x4 f0 f1 f2 f3 f4 hI3
            obtain ⟨x0, x1, x2, x3, x4⟩ := Five.cells HI3.out
            obtain ⟨f0, f1, f2, f3, f4⟩ := Five.free HI3.out
            generalize hk : nameN nm = k at *
            clear hk
            have HRR := Lib.hid (HR1.out.below HBJ.out (Nat.lt_of_lt_of_le hRB.out HSW.out))
            have HBW := Lib.hid (HB1.out.trans (HBJ.out.mono HSI.out))
            by_cases hk0 : k = 0
            · have hk0' : ((k : Int) == 0) = true := by rw [hk0]; rfl
              have HRF : Hid (R = (insZ, 5)) := by show _ = _; rw [HREF.out, if_pos hk0]
              clear hk0
              have HG := Lib.hid (Five.fill HRR.out (.int .i64 0) (.int .i64 0) (.int .i64 0) (.int .i64 0) (.int .u32 0))
              have HFN := Lib.hid (below_fill HBW.out (Nat.le_refl _) (.int .i64 0) (.int .i64 0) (.int .i64 0) (.int .i64 0) (.int .u32 0))
              obtain ⟨c0, c1, c2, c3, c4⟩ := Five.cells HRR.out
              obtain ⟨g0, g1, g2, g3, g4⟩ := Five.free HRR.out
              go_wp2_with fail
              all_goals
                change bodyPost _ _ _ _ _ (fill5 (wr) w.heap.size (.int .i64 0) (.int .i64 0) (.int .i64 0) (.int .i64 0) (.int .u32 0))
                clear c0 c1 c2 c3 c4 g0 g1 g2 g3 g4
                generalize fill5 (wr) w.heap.size (.int .i64 0) (.int .i64 0) (.int .i64 0) (.int .i64 0) (.int .u32 0) = W5 at *
                obtain ⟨q0, q1, q2, q3, q4⟩ := Five.cells HG.out
                exact bodyPost_ret (v := .tuple #[insV insZ, .int .i64 5]) (by simp [results, go_sem, Tryz.results13, q0, q1, q2, q3, q4]) rfl ⟨by rw [HRF.out]; rfl, HFN.out⟩
            · have hk0' : ((k : Int) == 0) = false := beq_eq_false_iff_ne.2 (by omega)
              have r4 : wr.cell? ⟨rb, k * 6 + 4, none⟩ = some (.string (bsl (orderB k))) := (hbj.cell (by show rb < ib; omega)).trans (HRS.out k 4 _ hnl rfl)
              have hk1 : (1 : Int) ≤ (k : Int) := by omega
              have hk2 : (k : Int) < 54 := by omega
              have HRF0 : Hid (R = refOps true (orderB k) ⟨(k : Int), 0, 0, 0, 0⟩ false (s.drop nm.length)) := by show _ = _; rw [HREF.out, if_neg hk0]
              obtain ⟨ol, oL, _, _⟩ := order_facts k hnl
              have HOL := Lib.hid oL
              clear hk0 hbj oL
              generalize orderB k = o at *
              go_upto_region 14 with fail
              clear x0 x1 x2 x3 x4 f0 f1 f2 f3 f4 r4
              rename Act → World → Prop => K2
              rename ∀ (a : Act) (w : World), Code.wp _ _ _ a w → K2 a w => hK2
              have hib2 : w.heap.size < ib := Nat.lt_of_lt_of_le hRB.out HSW.out
              have hrest2 : Hid (∀ (y1 y3 y5 y7 y10 y11 y12 y13 y14 y15 y16 y17 y18 y19 y20 y21 y22 y23 y24 y25 y26 y27 y28 y29 y30 y31 y32 y33 y34 y35 y36 y37 y38 y39 y40 y41 y42 y43 y44 y45 y46 y47 y48 y49 y50 y51 y52 y53 y54 y55 y56 y57 y58 y59 y60 y61 y62 y63 y64 y65 y66 y67 y68 y69 y70 y71 y72 y73 y74 y75 y76 y77 y78 y79 y80 y81 y82 y83 y84 y85 y86 y87 y88 y89 y90 y91 y92 y93 y94 y95 y96 y97 y98 y99 y100 y101 y102 y103 y104 y105 y106 y107 y108 y109 y110 y111 y112 y113 y114 y115 y116 y117 y118 y119 y120 y121 y122 y123 y124 y125 y126 y127 y128 y129 y130 y131 y132 y133 y134 y135 y136 y137 y138 y139 y140 y141 y142 y143 y144 y145 y146 y147 y148 y149 y150 y151 y152 y153 y154 y155 y156 y157 y158 y159 y160 y161 y162 y163 y164 y165 y166 y167 y168 y169 y170 y171 y172 y173 y174 y175 y176 y177 y178 y179 y180 y181 y182 y183 y184 y185 y186 y187 y188 y189 y190 y191 y192 y193 y194 y195 y196 y197 y198 y199 y200 y201 y202 y203 y204 y205 y206 y207 y208 y209 y210 : Value), K2 ⟨#[.string (bsl s), y1, .pointer (some ⟨w.heap.size, 0, none⟩), y3, .int .i64 (nm.length : Int), y5, .pointer (some ⟨ib, 0, none⟩), y7, .string (bsl o), .bool false, y10, y11, y12, y13, y14, y15, y16, y17, y18, y19, y20, y21, y22, y23, y24, y25, y26, y27, y28, y29, y30, y31, y32, y33, y34, y35, y36, y37, y38, y39, y40, y41, y42, y43, y44, y45, y46, y47, y48, y49, y50, y51, y52, y53, y54, y55, y56, y57, y58, y59, y60, y61, y62, y63, y64, y65, y66, y67, y68, y69, y70, y71, y72, y73, y74, y75, y76, y77, y78, y79, y80, y81, y82, y83, y84, y85, y86, y87, y88, y89, y90, y91, y92, y93, y94, y95, y96, y97, y98, y99, y100, y101, y102, y103, y104, y105, y106, y107, y108, y109, y110, y111, y112, y113, y114, y115, y116, y117, y118, y119, y120, y121, y122, y123, y124, y125, y126, y127, y128, y129, y130, y131, y132, y133, y134, y135, y136, y137, y138, y139, y140, y141, y142, y143, y144, y145, y146, y147, y148, y149, y150, y151, y152, y153, y154, y155, y156, y157, y158, y159, y160, y161, y162, y163, y164, y165, y166, y167, y168, y169, y170, y171, y172, y173, y174, y175, y176, y177, y178, y179, y180, y181, y182, y183, y184, y185, y186, y187, y188, y189, y190, y191, y192, y193, y194, y195, y196, y197, y198, y199, y200, y201, y202, y203, y204, y205, y206, y207, y208, y209, y210], []⟩ wr) := by
                intro y1 y3 y5 y7 y10 y11 y12 y13 y14 y15 y16 y17 y18 y19 y20 y21 y22 y23 y24 y25 y26 y27 y28 y29 y30 y31 y32 y33 y34 y35 y36 y37 y38 y39 y40 y41 y42 y43 y44 y45 y46 y47 y48 y49 y50 y51 y52 y53 y54 y55 y56 y57 y58 y59 y60 y61 y62 y63 y64 y65 y66 y67 y68 y69 y70 y71 y72 y73 y74 y75 y76 y77 y78 y79 y80 y81 y82 y83 y84 y85 y86 y87 y88 y89 y90 y91 y92 y93 y94 y95 y96 y97 y98 y99 y100 y101 y102 y103 y104 y105 y106 y107 y108 y109 y110 y111 y112 y113 y114 y115 y116 y117 y118 y119 y120 y121 y122 y123 y124 y125 y126 y127 y128 y129 y130 y131 y132 y133 y134 y135 y136 y137 y138 y139 y140 y141 y142 y143 y144 y145 y146 y147 y148 y149 y150 y151 y152 y153 y154 y155 y156 y157 y158 y159 y160 y161 y162 y163 y164 y165 y166 y167 y168 y169 y170 y171 y172 y173 y174 y175 y176 y177 y178 y179 y180 y181 y182 y183 y184 y185 y186 y187 y188 y189 y190 y191 y192 y193 y194 y195 y196 y197 y198 y199 y200 y201 y202 y203 y204 y205 y206 y207 y208 y209 y210
                exact hK2 _ _ (pof_tail s o hl nm.length R _ w w1 wr ib hnl0 ol HOL.out hib2 HR1 HB1 HI3 HBJ HRF0 y1 y3 y5 y7 y10 y11 y12 y13 y14 y15 y16 y17 y18 y19 y20 y21 y22 y23 y24 y25 y26 y27 y28 y29 y30 y31 y32 y33 y34 y35 y36 y37 y38 y39 y40 y41 y42 y43 y44 y45 y46 y47 y48 y49 y50 y51 y52 y53 y54 y55 y56 y57 y58 y59 y60 y61 y62 y63 y64 y65 y66 y67 y68 y69 y70 y71 y72 y73 y74 y75 y76 y77 y78 y79 y80 y81 y82 y83 y84 y85 y86 y87 y88 y89 y90 y91 y92 y93 y94 y95 y96 y97 y98 y99 y100 y101 y102 y103 y104 y105 y106 y107 y108 y109 y110 y111 y112 y113 y114 y115 y116 y117 y118 y119 y120 y121 y122 y123 y124 y125 y126 y127 y128 y129 y130 y131 y132 y133 y134 y135 y136 y137 y138 y139 y140 y141 y142 y143 y144 y145 y146 y147 y148 y149 y150 y151 y152 y153 y154 y155 y156 y157 y158 y159 y160 y161 y162 y163 y164 y165 y166 y167 y168 y169 y170 y171 y172 y173 y174 y175 y176 y177 y178 y179 y180 y181 y182 y183 y184 y185 y186 y187 y188 y189 y190 y191 y192 y193 y194 y195 y196 y197 y198 y199 y200 y201 y202 y203 y204 y205 y206 y207 y208 y209 y210)
              clear hK2
              go_wp2_with fail
              exact hrest2.out _ _ _ _ _ _ _ _ _ _ _ _ _ _ _ _ _ _ _ _ _ _ _ _ _ _ _ _ _ _ _ _ _ _ _ _ _ _ _ _ _ _ _ _ _ _ _ _ _ _ _ _ _ _ _ _ _ _ _ _ _ _ _ _ _ _ _ _ _ _ _ _ _ _ _ _ _ _ _ _ _ _ _ _ _ _ _ _ _ _ _ _ _ _ _ _ _ _ _ _ _ _ _ _ _ _ _ _ _ _ _ _ _ _ _ _ _ _ _ _ _ _ _ _ _ _ _ _ _ _ _ _ _ _ _ _ _ _ _ _ _ _ _ _ _ _ _ _ _ _ _ _ _ _ _ _ _ _ _ _ _ _ _ _ _ _ _ _ _ _ _ _ _ _ _ _ _ _ _ _ _ _ _ _ _ _ _ _ _ _ _ _ _ _ _ _ _ _ _ _ _ _ _ _ _
      clear hK1
      rcases HEE.out with he | ⟨hps, h32, hp'⟩
      · go_wp2
        exact hrest.out _ _ _ _ _ _ _ _ _ _ _ _
      · go_wp2
        exact hrest.out _ _ _ _ _ _ _ _ _ _ _ _
end Go.Proofs.YtnppegldebocmaaGreatDoor
