/- The walk of ram.New. Conditions: as each theorem states. -/
import Derived.Test.YtnppegldebocmaaDoorRam
import Derived.Deep.OwnRows
import Derived.WalkSmall
namespace Go.Proofs.YtnppegldebocmaaDoor
open Go.RowKit
set_option linter.unusedVariables false
theorem Tryd.infoB : (Tryd.prog.info? 5).map (fun i => (i.zero, i.size, i.bytes)) = some (some (.int .u8 0), 1, 1) := by kernel_rfl
/-- Byte i of memory behind the first k words. -/
def memK (ws : Nat → Int) (k i : Nat) : Int := if i / 4 < k then ws (i / 4) / 256 ^ (3 - i % 4) % 256 else 0
theorem memK_range (ws : Nat → Int) (k i : Nat) : 0 ≤ memK ws k i ∧ memK ws k i < 256 := by
  unfold memK
  split
  · exact ⟨Int.emod_nonneg _ (by decide), Int.emod_lt_of_pos _ (by decide)⟩
  · decide
/-- The byte block behind k words. -/
structure RowK (wr : World) (bb : Nat) (ws : Nat → Int) (k : Nat) : Prop where
  row : ∃ cur : List Value, wr.heap[bb]? = some (.cells cur.toArray 5 (0, 0)) ∧ cur.length = 16384 ∧ ∀ i, i < 16384 → cur[i]? = some (.int .u8 (memK ws k i))
theorem sizeB : (Tryd.prog.info? 5).map (·.size) = some 1 := by kernel_rfl
theorem four_new (w : World) (a b c d : Value) (t : TypeId) : ∀ j v, [a, b, c, d][j]? = some v → (w.alloc (.cells #[a, b, c, d] t)).cell? ((⟨w.heap.size, 0, none⟩ : Addr).add j) = some v := by
  intro j u hj
  match j, hj with
  | 0, hj => simp at hj; subst hj; simp [Addr.add]
  | 1, hj => simp at hj; subst hj; simp [Addr.add]
  | 2, hj => simp at hj; subst hj; simp [Addr.add]
  | 3, hj => simp at hj; subst hj; simp [Addr.add]
  | j + 4, hj => simp at hj
theorem four_get (x : Int) (j : Nat) (hj : j < 4) (x0 : 0 ≤ x) (x1 : x < 4294967296) : [Value.int .u8 (x / 16777216), .int .u8 (x / 65536 % 256), .int .u8 (x / 256 % 256), .int .u8 (x % 256)][j]? = some (.int .u8 (x / 256 ^ (3 - j) % 256)) := by
  match j, hj with
  | 0, _ => exact congrArg (fun z => some (Value.int .u8 z)) (by show x / 16777216 = x / 16777216 % 256; omega)
  | 1, _ => rfl
  | 2, _ => rfl
  | 3, _ => exact congrArg (fun z => some (Value.int .u8 z)) (by show x % 256 = x / 1 % 256; omega)
/-- copy into a row that is known whole: the row behind it; every other block is as it was. -/
theorem wpList_copy_keep {P : Program} {w : World} {ops : Array Oper} {rest : List Oper} {o : Oper} {a : Act} {Q : Exit → Act → World → Prop} (hgd : o.guard = none) (d s : Operand) (dT sT : TypeId)
    (ho : o.op = .call { callee := .builtin .copy, args := #[d, s], argTypes := #[dT, sT] }) (elem : TypeId) (hu : P.underlying dT = some (.slice elem)) (hsz : (P.info? elem).map (·.size) = some 1)
    (dLen dCap sLen sCap : Nat) (g off : Nat) (ad : Addr) (hd : a.eval d = .slice (some ⟨g, off, none⟩) dLen dCap) (hs : a.eval s = .slice (some ad) sLen sCap)
    (cur : List Value) (t : TypeId) (hg : w.heap[g]? = some (.cells cur.toArray t (0, 0))) (cs : List Value) (hn : cs.length = Nat.min sLen dLen)
    (hsrc : ∀ j v, cs[j]? = some v → w.cell? (ad.add j) = some v)
    (hfit : off + cs.length ≤ cur.length) (h1 : ∀ v ∈ cs, v.oneCell' = true) (B : Nat) (w0 : World) (hb : Below B w0 w) (hBg : B ≤ g)
    (h : ∀ w', Hid (w'.heap[g]? = some (.cells (splice cur off cs).toArray t (0, 0))) → Hid (∀ k, k ≠ g → w'.heap[k]? = w.heap[k]?) → Below B w0 w' → wpList P ops Q rest (a.put o.dst (goInt cs.length)) w') :
    wpList P ops Q (o :: rest) a w := by
  refine wpList_copy_own hgd d s dT sT ho elem hu hsz g off dLen dCap ad sLen sCap hd hs cur.toArray t hg cs hn hsrc (by simpa using hfit) h1 ?_
  exact h _ (show _ = _ by simpa [splice] using setRow_heap w g _ _ t _ hg) (fun k hk => setRow_other w g k _ hk) (below_setRow hb hBg _)
theorem made_zero (n : Nat) : ∃ mc : Array Value, (madeCells #[.int .u8 0] n = mc) ∧ mc.toList.length = n ∧ ∀ i, i < n → mc.toList[i]? = some (.int .u8 0) := by
  refine ⟨_, rfl, by simp [size_madeCells], fun i hi => ?_⟩
  simp [madeCells, hi, Nat.mod_one]
theorem memK_zero (ws : Nat → Int) (i : Nat) : memK ws 0 i = 0 := by
  unfold memK
  rw [if_neg (by omega)]
theorem splice_get {α : Type} (L cs : List α) (off i : Nat) (h : off + cs.length ≤ L.length) : (splice L off cs)[i]? = if i < off then L[i]? else if i < off + cs.length then cs[i - off]? else L[i]? := by
  unfold splice
  by_cases h1 : i < off
  · rw [if_pos h1, List.getElem?_append_left (by rw [List.length_take]; omega), List.getElem?_take, if_pos h1]
  · rw [if_neg h1, List.getElem?_append_right (by rw [List.length_take]; omega), List.length_take]
    by_cases h2 : i < off + cs.length
    · rw [if_pos h2, List.getElem?_append_left (by omega)]
      congr 1
      omega
    · rw [if_neg h2, List.getElem?_append_right (by omega), List.getElem?_drop]
      congr 1
      omega
theorem memK_step (ws : Nat → Int) (k i : Nat) : memK ws (k + 1) i = if i < 4 * k then memK ws k i else if i < 4 * k + 4 then ws k / 256 ^ (3 - (i - 4 * k)) % 256 else memK ws k i := by
  unfold memK
  by_cases h1 : i < 4 * k
  · rw [if_pos h1, if_pos (by omega), if_pos (by omega)]
  · rw [if_neg h1]
    by_cases h2 : i < 4 * k + 4
    · rw [if_pos h2, if_pos (by omega), show i / 4 = k by omega, show i % 4 = i - 4 * k by omega]
    · rw [if_neg h2, if_neg (by omega), if_neg (by omega)]
set_option maxHeartbeats 1000000 in
theorem new_some (b off len cap m : Nat) (e1 : min (len : Int) 4096 = (m : Int)) (m1 : m ≤ len) (m2 : m ≤ 4096) (ws : Nat → Int) (hw : ∀ k, k < len → 0 ≤ ws k ∧ ws k < 4294967296) (hl : len ≤ 5000) (hcap : len ≤ cap) (w : World) (hb : b < w.heap.size)
    (hcl : ∀ k, k < len → w.cell? ⟨b, off + k, none⟩ = some (.int .u32 (ws k))) :
    Calls Tryd.prog 14 #[.slice (some ⟨b, off, none⟩) len cap] w fun e w' => ∃ r bb, e = .returned (.pointer (some ⟨r, 0, none⟩)) ∧ w.heap.size ≤ r ∧ w.heap.size ≤ bb ∧ r < w'.heap.size ∧ RamAt w' r bb (memK ws m) ∧ Below w.heap.size w w' := by
  obtain ⟨mc, hmc, hmc1, hmc2⟩ := made_zero 16384
  have hmk : ∀ W : World, (Instr.makeSlice 69 (.int .i64 16384) (.int .i64 16384)).run Tryd.prog W = .ok (.slice (some ⟨W.heap.size, 0, none⟩) 16384 16384) (W.alloc (.cells mc 5)) := by
    intro W
    rw [← hmc]
    exact run_make_row' 69 5 (.int .u8 0) 1 Tryd.underlying69 Tryd.infoB rfl .i64 .i64 16384 (by decide) (by decide) W
  have hmm := @run_makeMap Tryd.prog
  have HCL := Lib.hid hcl
  have HM1 := Lib.hid hmc1
  have HM2 := Lib.hid hmc2
  clear hmc hmc1 hmc2
  have HW := Lib.hid hw
  clear hcl hw
  go_enter Tryd.func14, Tryd.ntmps14
  go_wp2_with fail
  have HB0 : Below w.heap.size w ((((w.alloc (.cells mc 5)).alloc (.map #[] 0)).alloc (.map #[] 0)).alloc (.cells #[.slice (some ⟨w.heap.size, 0, none⟩) 16384 16384, .map (some (w.heap.size + 1)), .map (some (w.heap.size + 1 + 1))] 72)) :=
    ((((Below.refl _ _).alloc (Nat.le_refl _) _).alloc (by simp <;> omega) _).alloc (by simp <;> omega) _).alloc (by simp <;> omega) _
  have HR0 : RowK ((((w.alloc (.cells mc 5)).alloc (.map #[] 0)).alloc (.map #[] 0)).alloc (.cells #[.slice (some ⟨w.heap.size, 0, none⟩) 16384 16384, .map (some (w.heap.size + 1)), .map (some (w.heap.size + 1 + 1))] 72)) w.heap.size ws 0 := by
    refine ⟨mc.toList, ?_, HM1.out, fun i hi => by rw [HM2.out i hi, memK_zero]⟩
    rw [Below.heap_alloc _ _ _ (by simp <;> omega), Below.heap_alloc _ _ _ (by simp <;> omega), Below.heap_alloc _ _ _ (by simp <;> omega), heap_alloc_new]
  have HS0 : ∃ vw vh : Value, ((((w.alloc (.cells mc 5)).alloc (.map #[] 0)).alloc (.map #[] 0)).alloc (.cells #[.slice (some ⟨w.heap.size, 0, none⟩) 16384 16384, .map (some (w.heap.size + 1)), .map (some (w.heap.size + 1 + 1))] 72)).heap[w.heap.size + 1 + 1 + 1]? = some (.cells #[.slice (some ⟨w.heap.size, 0, none⟩) 16384 16384, vw, vh] 72 (0, 0)) :=
    ⟨_, _, by simpa using heap_alloc_new (((w.alloc (.cells mc 5)).alloc (.map #[] 0)).alloc (.map #[] 0)) (.cells #[.slice (some ⟨w.heap.size, 0, none⟩) 16384 16384, .map (some (w.heap.size + 1)), .map (some (w.heap.size + 1 + 1))] 72)⟩
  have hz0 : w.heap.size + 1 + 1 + 1 < ((((w.alloc (.cells mc 5)).alloc (.map #[] 0)).alloc (.map #[] 0)).alloc (.cells #[.slice (some ⟨w.heap.size, 0, none⟩) 16384 16384, .map (some (w.heap.size + 1)), .map (some (w.heap.size + 1 + 1))] 72)).heap.size := by simp
  generalize ((((w.alloc (.cells mc 5)).alloc (.map #[] 0)).alloc (.map #[] 0)).alloc (.cells #[.slice (some ⟨w.heap.size, 0, none⟩) 16384 16384, .map (some (w.heap.size + 1)), .map (some (w.heap.size + 1 + 1))] 72)) = w1 at *
  clear hmk hmm
  go_loopw [17] (fun i wr => ∃ k : Nat, k ≤ m ∧ i = .int .i64 (k : Int) ∧ RowK wr w.heap.size ws k ∧ (∃ vw vh : Value, wr.heap[w.heap.size + 1 + 1 + 1]? = some (.cells #[.slice (some ⟨w.heap.size, 0, none⟩) 16384 16384, vw, vh] 72 (0, 0))) ∧ Below w.heap.size w wr) (fun i _ => m - (intOf i).toNat)
  case atStart => exact ⟨0, Nat.zero_le _, rfl, HR0, HS0, HB0⟩
  case round =>
    obtain ⟨k, hk, rfl, HR, HS, HB⟩ := hrel
    obtain ⟨vw, vh, hS⟩ := HS
    obtain ⟨cur, hcur, hcl, hget⟩ := HR.row
    have c0 : wr.cell? ⟨w.heap.size + 1 + 1 + 1, 0, none⟩ = some (.slice (some ⟨w.heap.size, 0, none⟩) 16384 16384) := by simp [World.cell?, hS]
    have HHS := Lib.hid hS
    have HHC := Lib.hid hcur
    have HHL := Lib.hid hcl
    have HHG := Lib.hid hget
    have HHB := Lib.hid HB
    clear HR hS hcur hcl hget HB
    by_cases hlt : k < m
    · have hx := (HHB.out.cell (by exact hb)).trans (HCL.out k (by omega))
      obtain ⟨x0, x1⟩ := HW.out k (by omega)
      have hal := (Below.refl wr.heap.size wr).alloc (Nat.le_refl _) (.cells #[.int .u8 (ws k / 16777216), .int .u8 (ws k / 65536 % 256), .int .u8 (ws k / 256 % 256), .int .u8 (ws k % 256)] 5)
      have hsB := HHB.out.size
      have hbb : w.heap.size < wr.heap.size := (Array.getElem?_eq_some_iff.1 HHC.out).1
      have hrr : w.heap.size + 1 + 1 + 1 < wr.heap.size := (Array.getElem?_eq_some_iff.1 HHS.out).1
      have HALC := Lib.hid ((hal.block w.heap.size hbb).trans HHC.out)
      have HALB := Lib.hid (HHB.out.trans (hal.mono hsB))
      clear hal
      go_wp2_with (refine wpList_copy_keep rfl (.tmp 28) (.tmp 40) 69 69 rfl 5 Tryd.underlying69 sizeB _ _ _ _ w.heap.size (4 * k) _ rfl rfl cur 5 HALC.out [.int .u8 (ws k / 16777216), .int .u8 (ws k / 65536 % 256), .int .u8 (ws k / 256 % 256), .int .u8 (ws k % 256)] ?hn (four_new wr _ _ _ _ _) ?hfit ?h1 w.heap.size w HALB.out (Nat.le_refl _) ?_)
      case hn => show 4 = Nat.min 4 (16384 - 4 * k); exact (Nat.min_eq_left (by omega)).symm
      case hfit => rw [HHL.out]; show 4 * k + 4 ≤ 16384; omega
      case h1 => intro v hv; simp at hv; rcases hv with rfl | rfl | rfl | rfl <;> rfl
      intro w5 hrow5 hoth5 hB5
      have HR5 : RowK w5 w.heap.size ws (k + 1) := by
        refine ⟨_, hrow5.out, by rw [length_splice _ _ _ (by rw [HHL.out]; show 4 * k + 4 ≤ 16384; omega)]; exact HHL.out, fun i hi => ?_⟩
        rw [splice_get _ _ _ _ (by rw [HHL.out]; show 4 * k + 4 ≤ 16384; omega), HHG.out i hi, memK_step]
        show (if i < 4 * k then _ else if i < 4 * k + 4 then _ else _) = _
        by_cases q1 : i < 4 * k
        · rw [if_pos q1, if_pos q1]
        · rw [if_neg q1, if_neg q1]
          by_cases q2 : i < 4 * k + 4
          · rw [if_pos q2, if_pos q2]
            exact four_get (ws k) (i - 4 * k) (by omega) x0 x1
          · rw [if_neg q2, if_neg q2]
      have HS5 : ∃ vw vh : Value, w5.heap[w.heap.size + 1 + 1 + 1]? = some (.cells #[.slice (some ⟨w.heap.size, 0, none⟩) 16384 16384, vw, vh] 72 (0, 0)) :=
        ⟨vw, vh, (hoth5.out _ (by omega)).trans (((Below.refl wr.heap.size wr).alloc (Nat.le_refl _) (.cells #[.int .u8 (ws k / 16777216), .int .u8 (ws k / 65536 % 256), .int .u8 (ws k / 256 % 256), .int .u8 (ws k % 256)] 5)).block _ hrr |>.trans HHS.out)⟩
      clear hrow5 hoth5 HALC HALB HHS HHC HHL HHG HHB hx x0 x1 c0 hsB hbb hrr
      go_wp2
      go_roundw
      case rel => exact ⟨k + 1, by omega, by go_num, HR5, HS5, hB5⟩
      case measure => simp [intOf]; omega
    · have hkm : k = m := by omega
      subst hkm
      have HRAM : RamAt wr (w.heap.size + 1 + 1 + 1) w.heap.size (memK ws k) := by
        refine ⟨⟨vw, vh, HHS.out⟩, fun i hi => ?_, (Array.getElem?_eq_some_iff.1 HHC.out).1⟩
        have := HHG.out i hi
        simp [World.cell?, HHC.out, this]
      have hrr : w.heap.size + 1 + 1 + 1 < wr.heap.size := (Array.getElem?_eq_some_iff.1 HHS.out).1
      have HR2 := Lib.hid HRAM
      clear HRAM c0
      go_wp2
      go_ret
      exact ⟨_, _, rfl, by omega, Nat.le_refl _, hrr, HR2.out, HHB.out⟩
end Go.Proofs.YtnppegldebocmaaDoor
