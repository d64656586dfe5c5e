/- The walk of code.Encode. Conditions: the numbers fit their kinds; the two errors' variables hold what they hold. -/
import Derived.Test.YtnppegldebocmaaGreatDoorEncP
import Derived.Test.YtnppegldebocmaaGreatDoorHasB
namespace Go.Proofs.YtnppegldebocmaaGreatDoor
open Go.RowKit
theorem iter_below {w w' : World} {k : Nat} {s : ByteArray} {p : Nat} (h : Hid (w.heap[k]? = some (.stringIter s p))) (hb : Below w.heap.size w w') : Hid (w'.heap[k]? = some (.stringIter s p)) :=
  (hb.block k (Array.getElem?_eq_some_iff.1 h.out).1).trans h.out
theorem all_snoc {l : List UInt8} {j : Nat} {c : UInt8} {p : UInt8 → Bool} (hs : l.take (j + 1) = l.take j ++ [c]) (h : (l.take j).all p = true) (hc : p c = true) : Hid ((l.take (j + 1)).all p = true) := by
  show _ = true
  rw [hs, List.all_append, h]
  simp [hc]
theorem ok_of (i : InsN) (c : UInt8) (h0 : 0 ≤ valF i c) (h1 : valF i c < mostF c) : okF i c = true := by
  unfold okF
  simp [h0, h1]
/-- Does a field stand that the operation has not? -/
def bad2 (i : InsN) (c : UInt8) : Bool := !((fieldsB i.op.toNat).contains c) && valF i c != 0
/-- Is the instruction none? -/
def encBad (i : InsN) : Bool := !((fieldsB i.op.toNat).all (okF i)) || [83, 84, 68].any (bad2 i) || (!((fieldsB i.op.toNat).any ([97, 105, 106].contains ·)) && i.imm != 0)
def encRes (i : InsN) (vB : Value) : Value := if encBad i then .tuple #[.int .u32 0, vB] else .tuple #[.int .u32 (encL i (fieldsB i.op.toNat)), .nilIface]
theorem encRes_bad {i : InsN} {vB : Value} (h : encBad i = true) : encRes i vB = .tuple #[.int .u32 0, vB] := by
  unfold encRes
  rw [if_pos h]
theorem encRes_good {i : InsN} {vB : Value} (h : encBad i = false) : encRes i vB = .tuple #[.int .u32 (encL i (fieldsB i.op.toNat)), .nilIface] := by
  unfold encRes
  rw [if_neg (by rw [h]; decide)]
theorem bad_1 (i : InsN) (c : UInt8) (hm : c ∈ fieldsB i.op.toNat) (h : ¬ (0 ≤ valF i c ∧ valF i c < mostF c)) : encBad i = true := by
  have h1 : (fieldsB i.op.toNat).all (okF i) = false := by
    rw [List.all_eq_false]
    refine ⟨c, hm, ?_⟩
    unfold okF
    intro hh
    simp at hh
    exact h hh
  unfold encBad
  rw [h1]
  rfl
theorem any_snoc {l : List UInt8} {j : Nat} {c : UInt8} {p : UInt8 → Bool} (hs : l.take (j + 1) = l.take j ++ [c]) (h : (l.take j).any p = false) (hc : p c = false) : Hid ((l.take (j + 1)).any p = false) := by
  show _ = false
  rw [hs, List.any_append, h]
  simp [hc]
theorem bad2_yes (i : InsN) (c : UInt8) (h : (fieldsB i.op.toNat).contains c = true) : bad2 i c = false := by
  unfold bad2
  rw [h]
  rfl
theorem bad2_zero (i : InsN) (c : UInt8) (h : valF i c = 0) : bad2 i c = false := by
  unfold bad2
  rw [h]
  simp
theorem bad_2 (i : InsN) (c : UInt8) (hm : c ∈ ([83, 84, 68] : List UInt8)) (h : (fieldsB i.op.toNat).contains c = false) (hv : ¬ valF i c = 0) : encBad i = true := by
  have h1 : [83, 84, 68].any (bad2 i) = true := by
    rw [List.any_eq_true]
    refine ⟨c, hm, ?_⟩
    unfold bad2
    rw [h]
    simp [hv]
  unfold encBad
  rw [h1]
  simp
theorem bad_3 (i : InsN) (h : (fieldsB i.op.toNat).any ([97, 105, 106].contains ·) = false) (hv : ¬ i.imm = 0) : encBad i = true := by
  unfold encBad
  rw [h]
  simp [hv]
theorem good_of (i : InsN) (h1 : (fieldsB i.op.toNat).all (okF i) = true) (h2 : [83, 84, 68].any (bad2 i) = false) (h3 : (fieldsB i.op.toNat).any ([97, 105, 106].contains ·) = true ∨ i.imm = 0) : encBad i = false := by
  unfold encBad
  rw [h1, h2]
  rcases h3 with h | h
  · rw [h]
    rfl
  · rw [h]
    simp
theorem letter_ascii (x : UInt8) (h : letter x) : x.toNat < 128 := by
  rcases h with rfl | rfl | rfl | rfl | rfl | rfl <;> decide
theorem fieldsB_short (k : Nat) : (fieldsB k).length ≤ 3 := by
  by_cases h : k < 54
  · have all : ∀ k, k < 54 → (fieldsB k).length ≤ 3 := by decide
    exact all k h
  · rw [fieldsB_big k (by omega)]
    simp
/-- What the walk of Encode knows of a world. -/
structure EncW (w wr : World) (i : InsN) (bs : Nat) (vK vB : Value) : Prop where
  ins : Five wr w.heap.size 24 (.int .i64 i.op) (.int .i64 i.s) (.int .i64 i.t) (.int .i64 i.d) (.int .u32 i.imm)
  shape : Five wr bs 81 (.string (nameS i.op)) (.int .u32 (majorZ i.op)) (.int .u32 (minorZ i.op)) (.string (fieldsS i.op)) (.string (kindS i.op))
  kK : wr.cell? ⟨4, 0, none⟩ = some vK
  kB : wr.cell? ⟨5, 0, none⟩ = some vB
  below : Below w.heap.size w wr
  lo : w.heap.size < bs
  gK : 4 < w.heap.size
  gB : 5 < w.heap.size
theorem EncW.transB {w wr w' : World} {i : InsN} {bs k : Nat} {vK vB : Value} (h : EncW w wr i bs vK vB) (hb : Below k wr w') (hk : bs < k) : EncW w w' i bs vK vB :=
  have lo := h.lo
  have gK := h.gK
  have gB := h.gB
  ⟨h.ins.below hb (by omega), h.shape.below hb hk, (hb.cell (p := ⟨4, 0, none⟩) (Nat.lt_trans gK (Nat.lt_trans lo hk))).trans h.kK, (hb.cell (p := ⟨5, 0, none⟩) (Nat.lt_trans gB (Nat.lt_trans lo hk))).trans h.kB, h.below.trans (hb.mono (by omega)), h.lo, h.gK, h.gB⟩
theorem EncW.trans {w wr w' : World} {i : InsN} {bs : Nat} {vK vB : Value} (h : EncW w wr i bs vK vB) (hb : Below wr.heap.size wr w') : EncW w w' i bs vK vB := h.transB hb h.shape.lt
theorem EncW.drew {w wr : World} {i : InsN} {bs : Nat} {vK vB : Value} (h : EncW w wr i bs vK vB) : EncW w wr.drew i bs vK vB := h.trans ((Below.refl _ _).drew)
theorem EncW.iterAt {w wr : World} {i : InsN} {bs k : Nat} {vK vB : Value} (h : EncW w wr i bs vK vB) (hk : bs < k) (s : ByteArray) (p : Nat) : EncW w (wr.iterAt k s p) i bs vK vB :=
  h.transB (Lib.below_iterAt (Below.refl k wr) (Nat.le_refl k) s p) hk
theorem EncW.start {w w1 : World} {i : InsN} {vK vB : Value} (hK : w.cell? ⟨4, 0, none⟩ = some vK) (hB : w.cell? ⟨5, 0, none⟩ = some vB)
    (hb1 : Below (w.alloc (.cells #[.int .i64 i.op, .int .i64 i.s, .int .i64 i.t, .int .i64 i.d, .int .u32 i.imm] 24)).heap.size (w.alloc (.cells #[.int .i64 i.op, .int .i64 i.s, .int .i64 i.t, .int .i64 i.d, .int .u32 i.imm] 24)) w1) : EncW w (w1.alloc (.cells #[.string (nameS i.op), .int .u32 (majorZ i.op), .int .u32 (minorZ i.op), .string (fieldsS i.op), .string (kindS i.op)] 81)) i w1.heap.size vK vB := by
  have hltK := World.block_lt_of_cell? w _ hK
  have hltB := World.block_lt_of_cell? w _ hB
  have hs := hb1.size
  rw [World.size_alloc] at hs
  have b1 : Below w.heap.size w (w.alloc (.cells #[.int .i64 i.op, .int .i64 i.s, .int .i64 i.t, .int .i64 i.d, .int .u32 i.imm] 24)) := (Below.refl _ _).alloc (Nat.le_refl _) _
  have b2 : Below w.heap.size w w1 := b1.trans (hb1.mono (by simp))
  have b3 : Below w.heap.size w (w1.alloc (.cells #[.string (nameS i.op), .int .u32 (majorZ i.op), .int .u32 (minorZ i.op), .string (fieldsS i.op), .string (kindS i.op)] 81)) := b2.alloc (by omega) _
  have b4 : Below w1.heap.size w1 (w1.alloc (.cells #[.string (nameS i.op), .int .u32 (majorZ i.op), .int .u32 (minorZ i.op), .string (fieldsS i.op), .string (kindS i.op)] 81)) := (Below.refl _ _).alloc (Nat.le_refl _) _
  exact ⟨((Five.new w _ _ _ _ _ _).below hb1 (by simp)).below b4 (by omega), Five.new w1 _ _ _ _ _ _, (b3.cell hltK).trans hK, (b3.cell hltB).trans hB, b3, by omega, hltK, hltB⟩
set_option maxHeartbeats 1000000 in
theorem encode_none (i : InsN) (hn : (nameS i.op).toList.isEmpty = true) (vK vB : Value) (w : World) (hK : w.cell? ⟨4, 0, none⟩ = some vK) (hB : w.cell? ⟨5, 0, none⟩ = some vB) :
    Calls Tryz.prog 25 #[insV i] w fun e w' => e = .returned (.tuple #[.int .u32 0, vK]) ∧ Below w.heap.size w w' := by
  go_enter Tryz.func25, Tryz.ntmps25
  go_wp2_with (go_at_call 42; refine (of_agg _ _).mono ?_; rintro e w1 ⟨rfl, hb1⟩)
  have HE := EncW.start (i := i) hK hB hb1
  clear hK hB hb1
  generalize (w1.alloc (.cells #[.string (nameS i.op), .int .u32 (majorZ i.op), .int .u32 (minorZ i.op), .string (fieldsS i.op), .string (kindS i.op)] 81)) = w2 at *
  have hk := HE.kK
  go_quiet (fail)
  go_wp2
  go_ret2
  exact ⟨rfl, below_drewN HE.below _⟩
set_option maxHeartbeats 2000000 in
theorem encode_some (i : InsN) (hi : i.Fits) (hn : (nameS i.op).toList.isEmpty = false) (vK vB : Value) (w : World) (hK : w.cell? ⟨4, 0, none⟩ = some vK) (hB : w.cell? ⟨5, 0, none⟩ = some vB) :
    Calls Tryz.prog 25 #[insV i] w fun e w' => e = .returned (encRes i vB) ∧ Below w.heap.size w w' := by
  obtain ⟨o0, o1, s0, s1, t0, t1, d0, d1, m0, m1⟩ := hi
  go_enter Tryz.func25, Tryz.ntmps25
  go_wp2_with (go_at_call 42; refine (of_agg _ _).mono ?_; rintro e w1 ⟨rfl, hb1⟩)
  have HE := EncW.start (i := i) hK hB hb1
  clear hK hB hb1
  generalize (w1.alloc (.cells #[.string (nameS i.op), .int .u32 (majorZ i.op), .int .u32 (minorZ i.op), .string (fieldsS i.op), .string (kindS i.op)] 81)) = w2 at *
  generalize w1.heap.size = bs at *
  refine (fixed_any _ _).mono ?_
  rintro e w3 ⟨rfl, hb3⟩
  have HE3 := HE.trans hb3
  clear HE hb3
  obtain ⟨c0, c1, c2, c3, c4⟩ := HE3.shape.cells
  go_wp2_with fail
  have HI0 : Hid ((w3.iter (fieldsS i.op) 0).heap[w3.heap.size]? = some (.stringIter (fieldsS i.op) 0)) := iter_new _ _ _ _ rfl
  have HE4 : EncW w (w3.iter (fieldsS i.op) 0) i bs vK vB := HE3.trans (below_iter (Below.refl _ _) (Nat.le_refl _) _ _)
  have hlk : bs < w3.heap.size := HE3.shape.lt
  clear HE3 c0 c1 c2 c3 c4
  generalize w3.iter (fieldsS i.op) 0 = w4 at *
  generalize w3.heap.size = kI at *
  go_loopw [5] (fun v wr => ∃ j : Nat, j ≤ (fieldsB i.op.toNat).length ∧ v = .int .u32 (encL i ((fieldsB i.op.toNat).take j)) ∧ Hid (((fieldsB i.op.toNat).take j).all (okF i) = true) ∧ Hid (wr.heap[kI]? = some (.stringIter (fieldsS i.op) j)) ∧ EncW w wr i bs vK vB) (fun _ wr => (fieldsB i.op.toNat).length - wr.iterPos kI)
  case atStart => exact ⟨0, Nat.zero_le _, rfl, rfl, HI0, HE4⟩
  case round =>
    obtain ⟨j, hj, rfl, hall, hit, HE⟩ := hrel
    by_cases hlt : j < (fieldsB i.op.toNat).length
    · have hc : (fieldsB i.op.toNat)[j]? = some (fieldsB i.op.toNat)[j] := List.getElem?_eq_getElem hlt
      have hlet : letter (fieldsB i.op.toNat)[j] := fieldsB_letter _ _ (List.getElem_mem hlt)
      have HMEM := Lib.hid (List.getElem_mem hlt)
      generalize (fieldsB i.op.toNat)[j] = y at hc hlet HMEM
      have HS := Lib.hid (take_succ_of (fieldsB i.op.toNat) j y hc)
      rcases hlet with rfl | rfl | rfl | rfl | rfl | rfl
      · have hnx : ∀ ty, (Instr.next (.pointer (some ⟨kI, 0, none⟩)) true ty).run Tryz.prog wr = _ := fun ty => next_lit_at (P := Tryz.prog) wr kI (fieldsB i.op.toNat) j ty 83 83 hit.out hc (by decide) (by decide)
        clear hc
        have HE5 : EncW w (wr.iterAt kI (bsl (fieldsB i.op.toNat)) (j + 1)) i bs vK vB := HE.iterAt hlk _ _
        have hit5 : Hid ((wr.iterAt kI (bsl (fieldsB i.op.toNat)) (j + 1)).heap[kI]? = some (.stringIter (fieldsS i.op) (j + 1))) := Lib.iterAt_heap wr kI _ j _ hit.out
        have HM := Lib.hid (iterPos_of hit.out)
        generalize (wr.iterAt kI (bsl (fieldsB i.op.toNat)) (j + 1)) = w5 at hnx HE5 hit5
        obtain ⟨c0, c1, c2, c3, c4⟩ := HE5.ins.cells
        go_wp2_with (go_at_call 45; refine (place_83 _).mono ?_; rintro e w' ⟨rfl, rfl⟩)
        refine (value_83 _ _).mono ?_
        rintro e w6 ⟨rfl, hb6⟩
        have HE6 := HE5.trans hb6
        have hit6 := iter_below hit5 hb6
        have hkb := HE6.kB
        clear HE5 hit5 hb6 c0 c1 c2 c3 c4
        by_cases hv : 0 ≤ i.s ∧ i.s < 32
        · obtain ⟨hv0, hv1⟩ := hv
          go_wp2
          go_roundw
          case rel => exact ⟨j + 1, by omega, by rw [HS.out, encL_snoc]; rfl, all_snoc HS.out hall.out (ok_of i 83 hv0 hv1), hit6, HE6⟩
          case measure => rw [iterPos_of hit6.out, HM.out]; omega
        · have hbad : encBad i = true := bad_1 i 83 HMEM.out hv
          by_cases hv0 : 0 ≤ i.s
          · have hv1 : 32 ≤ i.s := by omega
            go_wp2
            go_quiet (fail)
            go_wp2
            go_ret2
            exact ⟨by rw [encRes_bad hbad]; rfl, below_drewN HE6.below _⟩
          · have hv1 : i.s < 0 := by omega
            go_wp2
            go_quiet (fail)
            go_wp2
            go_ret2
            exact ⟨by rw [encRes_bad hbad]; rfl, below_drewN HE6.below _⟩
      · have hnx : ∀ ty, (Instr.next (.pointer (some ⟨kI, 0, none⟩)) true ty).run Tryz.prog wr = _ := fun ty => next_lit_at (P := Tryz.prog) wr kI (fieldsB i.op.toNat) j ty 84 84 hit.out hc (by decide) (by decide)
        clear hc
        have HE5 : EncW w (wr.iterAt kI (bsl (fieldsB i.op.toNat)) (j + 1)) i bs vK vB := HE.iterAt hlk _ _
        have hit5 : Hid ((wr.iterAt kI (bsl (fieldsB i.op.toNat)) (j + 1)).heap[kI]? = some (.stringIter (fieldsS i.op) (j + 1))) := Lib.iterAt_heap wr kI _ j _ hit.out
        have HM := Lib.hid (iterPos_of hit.out)
        generalize (wr.iterAt kI (bsl (fieldsB i.op.toNat)) (j + 1)) = w5 at hnx HE5 hit5
        obtain ⟨c0, c1, c2, c3, c4⟩ := HE5.ins.cells
        go_wp2_with (go_at_call 45; refine (place_84 _).mono ?_; rintro e w' ⟨rfl, rfl⟩)
        refine (value_84 _ _).mono ?_
        rintro e w6 ⟨rfl, hb6⟩
        have HE6 := HE5.trans hb6
        have hit6 := iter_below hit5 hb6
        have hkb := HE6.kB
        clear HE5 hit5 hb6 c0 c1 c2 c3 c4
        by_cases hv : 0 ≤ i.t ∧ i.t < 32
        · obtain ⟨hv0, hv1⟩ := hv
          go_wp2
          go_roundw
          case rel => exact ⟨j + 1, by omega, by rw [HS.out, encL_snoc]; rfl, all_snoc HS.out hall.out (ok_of i 84 hv0 hv1), hit6, HE6⟩
          case measure => rw [iterPos_of hit6.out, HM.out]; omega
        · have hbad : encBad i = true := bad_1 i 84 HMEM.out hv
          by_cases hv0 : 0 ≤ i.t
          · have hv1 : 32 ≤ i.t := by omega
            go_wp2
            go_quiet (fail)
            go_wp2
            go_ret2
            exact ⟨by rw [encRes_bad hbad]; rfl, below_drewN HE6.below _⟩
          · have hv1 : i.t < 0 := by omega
            go_wp2
            go_quiet (fail)
            go_wp2
            go_ret2
            exact ⟨by rw [encRes_bad hbad]; rfl, below_drewN HE6.below _⟩
      · have hnx : ∀ ty, (Instr.next (.pointer (some ⟨kI, 0, none⟩)) true ty).run Tryz.prog wr = _ := fun ty => next_lit_at (P := Tryz.prog) wr kI (fieldsB i.op.toNat) j ty 68 68 hit.out hc (by decide) (by decide)
        clear hc
        have HE5 : EncW w (wr.iterAt kI (bsl (fieldsB i.op.toNat)) (j + 1)) i bs vK vB := HE.iterAt hlk _ _
        have hit5 : Hid ((wr.iterAt kI (bsl (fieldsB i.op.toNat)) (j + 1)).heap[kI]? = some (.stringIter (fieldsS i.op) (j + 1))) := Lib.iterAt_heap wr kI _ j _ hit.out
        have HM := Lib.hid (iterPos_of hit.out)
        generalize (wr.iterAt kI (bsl (fieldsB i.op.toNat)) (j + 1)) = w5 at hnx HE5 hit5
        obtain ⟨c0, c1, c2, c3, c4⟩ := HE5.ins.cells
        go_wp2_with (go_at_call 45; refine (place_68 _).mono ?_; rintro e w' ⟨rfl, rfl⟩)
        refine (value_68 _ _).mono ?_
        rintro e w6 ⟨rfl, hb6⟩
        have HE6 := HE5.trans hb6
        have hit6 := iter_below hit5 hb6
        have hkb := HE6.kB
        clear HE5 hit5 hb6 c0 c1 c2 c3 c4
        by_cases hv : 0 ≤ i.d ∧ i.d < 32
        · obtain ⟨hv0, hv1⟩ := hv
          go_wp2
          go_roundw
          case rel => exact ⟨j + 1, by omega, by rw [HS.out, encL_snoc]; rfl, all_snoc HS.out hall.out (ok_of i 68 hv0 hv1), hit6, HE6⟩
          case measure => rw [iterPos_of hit6.out, HM.out]; omega
        · have hbad : encBad i = true := bad_1 i 68 HMEM.out hv
          by_cases hv0 : 0 ≤ i.d
          · have hv1 : 32 ≤ i.d := by omega
            go_wp2
            go_quiet (fail)
            go_wp2
            go_ret2
            exact ⟨by rw [encRes_bad hbad]; rfl, below_drewN HE6.below _⟩
          · have hv1 : i.d < 0 := by omega
            go_wp2
            go_quiet (fail)
            go_wp2
            go_ret2
            exact ⟨by rw [encRes_bad hbad]; rfl, below_drewN HE6.below _⟩
      · have hnx : ∀ ty, (Instr.next (.pointer (some ⟨kI, 0, none⟩)) true ty).run Tryz.prog wr = _ := fun ty => next_lit_at (P := Tryz.prog) wr kI (fieldsB i.op.toNat) j ty 97 97 hit.out hc (by decide) (by decide)
        clear hc
        have HE5 : EncW w (wr.iterAt kI (bsl (fieldsB i.op.toNat)) (j + 1)) i bs vK vB := HE.iterAt hlk _ _
        have hit5 : Hid ((wr.iterAt kI (bsl (fieldsB i.op.toNat)) (j + 1)).heap[kI]? = some (.stringIter (fieldsS i.op) (j + 1))) := Lib.iterAt_heap wr kI _ j _ hit.out
        have HM := Lib.hid (iterPos_of hit.out)
        generalize (wr.iterAt kI (bsl (fieldsB i.op.toNat)) (j + 1)) = w5 at hnx HE5 hit5
        obtain ⟨c0, c1, c2, c3, c4⟩ := HE5.ins.cells
        go_wp2_with (go_at_call 45; refine (place_97 _).mono ?_; rintro e w' ⟨rfl, rfl⟩)
        refine (value_imm _ _ (by omega) m0 m1 _).mono ?_
        rintro e w6 ⟨rfl, hb6⟩
        have HE6 := HE5.trans hb6
        have hit6 := iter_below hit5 hb6
        have hkb := HE6.kB
        clear HE5 hit5 hb6 c0 c1 c2 c3 c4
        by_cases hv : 0 ≤ i.imm ∧ i.imm < 32
        · obtain ⟨hv0, hv1⟩ := hv
          go_wp2
          go_roundw
          case rel => exact ⟨j + 1, by omega, by rw [HS.out, encL_snoc]; rfl, all_snoc HS.out hall.out (ok_of i 97 hv0 hv1), hit6, HE6⟩
          case measure => rw [iterPos_of hit6.out, HM.out]; omega
        · have hbad : encBad i = true := bad_1 i 97 HMEM.out hv
          by_cases hv0 : 0 ≤ i.imm
          · have hv1 : 32 ≤ i.imm := by omega
            go_wp2
            go_quiet (fail)
            go_wp2
            go_ret2
            exact ⟨by rw [encRes_bad hbad]; rfl, below_drewN HE6.below _⟩
          · have hv1 : i.imm < 0 := by omega
            go_wp2
            go_quiet (fail)
            go_wp2
            go_ret2
            exact ⟨by rw [encRes_bad hbad]; rfl, below_drewN HE6.below _⟩
      · have hnx : ∀ ty, (Instr.next (.pointer (some ⟨kI, 0, none⟩)) true ty).run Tryz.prog wr = _ := fun ty => next_lit_at (P := Tryz.prog) wr kI (fieldsB i.op.toNat) j ty 105 105 hit.out hc (by decide) (by decide)
        clear hc
        have HE5 : EncW w (wr.iterAt kI (bsl (fieldsB i.op.toNat)) (j + 1)) i bs vK vB := HE.iterAt hlk _ _
        have hit5 : Hid ((wr.iterAt kI (bsl (fieldsB i.op.toNat)) (j + 1)).heap[kI]? = some (.stringIter (fieldsS i.op) (j + 1))) := Lib.iterAt_heap wr kI _ j _ hit.out
        have HM := Lib.hid (iterPos_of hit.out)
        generalize (wr.iterAt kI (bsl (fieldsB i.op.toNat)) (j + 1)) = w5 at hnx HE5 hit5
        obtain ⟨c0, c1, c2, c3, c4⟩ := HE5.ins.cells
        go_wp2_with (go_at_call 45; refine (place_105 _).mono ?_; rintro e w' ⟨rfl, rfl⟩)
        refine (value_imm _ _ (by omega) m0 m1 _).mono ?_
        rintro e w6 ⟨rfl, hb6⟩
        have HE6 := HE5.trans hb6
        have hit6 := iter_below hit5 hb6
        have hkb := HE6.kB
        clear HE5 hit5 hb6 c0 c1 c2 c3 c4
        by_cases hv : 0 ≤ i.imm ∧ i.imm < 65536
        · obtain ⟨hv0, hv1⟩ := hv
          go_wp2
          go_roundw
          case rel => exact ⟨j + 1, by omega, by rw [HS.out, encL_snoc]; rfl, all_snoc HS.out hall.out (ok_of i 105 hv0 hv1), hit6, HE6⟩
          case measure => rw [iterPos_of hit6.out, HM.out]; omega
        · have hbad : encBad i = true := bad_1 i 105 HMEM.out hv
          by_cases hv0 : 0 ≤ i.imm
          · have hv1 : 65536 ≤ i.imm := by omega
            go_wp2
            go_quiet (fail)
            go_wp2
            go_ret2
            exact ⟨by rw [encRes_bad hbad]; rfl, below_drewN HE6.below _⟩
          · have hv1 : i.imm < 0 := by omega
            go_wp2
            go_quiet (fail)
            go_wp2
            go_ret2
            exact ⟨by rw [encRes_bad hbad]; rfl, below_drewN HE6.below _⟩
      · have hnx : ∀ ty, (Instr.next (.pointer (some ⟨kI, 0, none⟩)) true ty).run Tryz.prog wr = _ := fun ty => next_lit_at (P := Tryz.prog) wr kI (fieldsB i.op.toNat) j ty 106 106 hit.out hc (by decide) (by decide)
        clear hc
        have HE5 : EncW w (wr.iterAt kI (bsl (fieldsB i.op.toNat)) (j + 1)) i bs vK vB := HE.iterAt hlk _ _
        have hit5 : Hid ((wr.iterAt kI (bsl (fieldsB i.op.toNat)) (j + 1)).heap[kI]? = some (.stringIter (fieldsS i.op) (j + 1))) := Lib.iterAt_heap wr kI _ j _ hit.out
        have HM := Lib.hid (iterPos_of hit.out)
        generalize (wr.iterAt kI (bsl (fieldsB i.op.toNat)) (j + 1)) = w5 at hnx HE5 hit5
        obtain ⟨c0, c1, c2, c3, c4⟩ := HE5.ins.cells
        go_wp2_with (go_at_call 45; refine (place_106 _).mono ?_; rintro e w' ⟨rfl, rfl⟩)
        refine (value_imm _ _ (by omega) m0 m1 _).mono ?_
        rintro e w6 ⟨rfl, hb6⟩
        have HE6 := HE5.trans hb6
        have hit6 := iter_below hit5 hb6
        have hkb := HE6.kB
        clear HE5 hit5 hb6 c0 c1 c2 c3 c4
        by_cases hv : 0 ≤ i.imm ∧ i.imm < 67108864
        · obtain ⟨hv0, hv1⟩ := hv
          go_wp2
          go_roundw
          case rel => exact ⟨j + 1, by omega, by rw [HS.out, encL_snoc]; rfl, all_snoc HS.out hall.out (ok_of i 106 hv0 hv1), hit6, HE6⟩
          case measure => rw [iterPos_of hit6.out, HM.out]; omega
        · have hbad : encBad i = true := bad_1 i 106 HMEM.out hv
          by_cases hv0 : 0 ≤ i.imm
          · have hv1 : 67108864 ≤ i.imm := by omega
            go_wp2
            go_quiet (fail)
            go_wp2
            go_ret2
            exact ⟨by rw [encRes_bad hbad]; rfl, below_drewN HE6.below _⟩
          · have hv1 : i.imm < 0 := by omega
            go_wp2
            go_quiet (fail)
            go_wp2
            go_ret2
            exact ⟨by rw [encRes_bad hbad]; rfl, below_drewN HE6.below _⟩
    · have hnx : ∀ ty, (Instr.next (.pointer (some ⟨kI, 0, none⟩)) true ty).run Tryz.prog wr = _ := fun ty => next_fin_at (P := Tryz.prog) wr kI (fieldsB i.op.toNat) j ty hit.out hlt
      have hfull : (fieldsB i.op.toNat).take j = fieldsB i.op.toNat := List.take_of_length_le (by omega)
      have HALL := hall.out
      rw [hfull] at HALL
      have HALL2 := Lib.hid HALL
      clear HALL hall
      rw [hfull]
      clear hfull
      go_wp2_with fail
      have hi2 : Hid ((wr.iter ⟨#[83, 84, 68]⟩ 0).heap[wr.heap.size]? = some (.stringIter (bsl [83, 84, 68]) 0)) := iter_new _ _ _ _ rfl
      have HE2 : EncW w (wr.iter ⟨#[83, 84, 68]⟩ 0) i bs vK vB := HE.trans (below_iter (Below.refl _ _) (Nat.le_refl _) _ _)
      have hlk2 : bs < wr.heap.size := HE.shape.lt
      clear HE hnx hit
      generalize wr.iter ⟨#[83, 84, 68]⟩ 0 = wa at *
      generalize wr.heap.size = kJ at *
      clear j hj hlt
      obtain ⟨wo, rfl⟩ : ∃ wo : World, wo = wr := ⟨_, rfl⟩
      go_loopw [12] (fun _ wr => ∃ j : Nat, j ≤ 3 ∧ Hid (([83, 84, 68].take j).any (bad2 i) = false) ∧ Hid (wr.heap[kJ]? = some (.stringIter (bsl [83, 84, 68]) j)) ∧ EncW w wr i bs vK vB) (fun _ wr => 3 - wr.iterPos kJ)
      case atStart => exact ⟨0, by omega, rfl, hi2, HE2⟩
      case round =>
        obtain ⟨j, hj, hany, hit, HE⟩ := hrel
        have HM := Lib.hid (iterPos_of hit.out)
        by_cases hlt : j < 3
        · have h3 : j = 0 ∨ j = 1 ∨ j = 2 := by omega
          rcases h3 with rfl | rfl | rfl
          · have hnx : ∀ ty, (Instr.next (.pointer (some ⟨kJ, 0, none⟩)) true ty).run Tryz.prog wr = _ := fun ty => next_lit_at (P := Tryz.prog) wr kJ [83, 84, 68] 0 ty 83 83 hit.out rfl (by decide) (by decide)
            have HE5 : EncW w (wr.iterAt kJ (bsl [83, 84, 68]) (0 + 1)) i bs vK vB := HE.iterAt hlk2 _ _
            have hit5 : Hid ((wr.iterAt kJ (bsl [83, 84, 68]) (0 + 1)).heap[kJ]? = some (.stringIter (bsl [83, 84, 68]) 1)) := Lib.iterAt_heap wr kJ _ 0 _ hit.out
            generalize (wr.iterAt kJ (bsl [83, 84, 68]) (0 + 1)) = w5 at hnx HE5 hit5
            obtain ⟨c0, c1, c2, c3, c4⟩ := HE5.shape.cells
            obtain ⟨d0', d1', d2', d3', d4'⟩ := HE5.ins.cells
            by_cases hcon : (fieldsB i.op.toNat).contains 83 = true
            · have HC := Lib.hid hcon
              clear hcon
              go_wp2_with (go_at_call 59; refine (containsRune_yes _ 83 HC 83 (by decide) (by decide) _).mono ?_; rintro e w' ⟨rfl, rfl⟩)
              go_roundw
              case rel => exact ⟨1, by omega, any_snoc rfl hany.out (bad2_yes i 83 HC.out), hit5, HE5⟩
              case measure => rw [iterPos_of hit5.out, HM.out]; omega
            · have HC := Lib.hid (Bool.eq_false_iff.2 hcon)
              clear hcon
              go_wp2_with (go_at_call 59; refine (containsRune_no _ 83 HC 83 (by decide) (by decide) _).mono ?_; rintro e w' ⟨rfl, rfl⟩)
              refine (value_83 _ _).mono ?_
              rintro e w6 ⟨rfl, hb6⟩
              have HE6 := HE5.trans hb6
              have hit6 := iter_below hit5 hb6
              have hkb := HE6.kB
              clear HE5 hit5 hb6 c0 c1 c2 c3 c4 d0' d1' d2' d3' d4'
              by_cases hv : i.s = 0
              · have hv1 : (i.s != 0) = false := by rw [hv]; rfl
                have HV := Lib.hid hv
                clear hv
                go_wp2
                go_roundw
                case rel => exact ⟨1, by omega, any_snoc rfl hany.out (bad2_zero i 83 HV.out), hit6, HE6⟩
                case measure => rw [iterPos_of hit6.out, HM.out]; omega
              · have hv1 : (i.s != 0) = true := by rw [bne_iff_ne]; exact hv
                have hbad : encBad i = true := bad_2 i 83 (by decide) HC.out hv
                go_wp2
                go_quiet (fail)
                go_wp2
                go_ret2
                exact ⟨by rw [encRes_bad hbad]; rfl, below_drewN HE6.below _⟩
          · have hnx : ∀ ty, (Instr.next (.pointer (some ⟨kJ, 0, none⟩)) true ty).run Tryz.prog wr = _ := fun ty => next_lit_at (P := Tryz.prog) wr kJ [83, 84, 68] 1 ty 84 84 hit.out rfl (by decide) (by decide)
            have HE5 : EncW w (wr.iterAt kJ (bsl [83, 84, 68]) (1 + 1)) i bs vK vB := HE.iterAt hlk2 _ _
            have hit5 : Hid ((wr.iterAt kJ (bsl [83, 84, 68]) (1 + 1)).heap[kJ]? = some (.stringIter (bsl [83, 84, 68]) 2)) := Lib.iterAt_heap wr kJ _ 1 _ hit.out
            generalize (wr.iterAt kJ (bsl [83, 84, 68]) (1 + 1)) = w5 at hnx HE5 hit5
            obtain ⟨c0, c1, c2, c3, c4⟩ := HE5.shape.cells
            obtain ⟨d0', d1', d2', d3', d4'⟩ := HE5.ins.cells
            by_cases hcon : (fieldsB i.op.toNat).contains 84 = true
            · have HC := Lib.hid hcon
              clear hcon
              go_wp2_with (go_at_call 59; refine (containsRune_yes _ 84 HC 84 (by decide) (by decide) _).mono ?_; rintro e w' ⟨rfl, rfl⟩)
              go_roundw
              case rel => exact ⟨2, by omega, any_snoc rfl hany.out (bad2_yes i 84 HC.out), hit5, HE5⟩
              case measure => rw [iterPos_of hit5.out, HM.out]; omega
            · have HC := Lib.hid (Bool.eq_false_iff.2 hcon)
              clear hcon
              go_wp2_with (go_at_call 59; refine (containsRune_no _ 84 HC 84 (by decide) (by decide) _).mono ?_; rintro e w' ⟨rfl, rfl⟩)
              refine (value_84 _ _).mono ?_
              rintro e w6 ⟨rfl, hb6⟩
              have HE6 := HE5.trans hb6
              have hit6 := iter_below hit5 hb6
              have hkb := HE6.kB
              clear HE5 hit5 hb6 c0 c1 c2 c3 c4 d0' d1' d2' d3' d4'
              by_cases hv : i.t = 0
              · have hv1 : (i.t != 0) = false := by rw [hv]; rfl
                have HV := Lib.hid hv
                clear hv
                go_wp2
                go_roundw
                case rel => exact ⟨2, by omega, any_snoc rfl hany.out (bad2_zero i 84 HV.out), hit6, HE6⟩
                case measure => rw [iterPos_of hit6.out, HM.out]; omega
              · have hv1 : (i.t != 0) = true := by rw [bne_iff_ne]; exact hv
                have hbad : encBad i = true := bad_2 i 84 (by decide) HC.out hv
                go_wp2
                go_quiet (fail)
                go_wp2
                go_ret2
                exact ⟨by rw [encRes_bad hbad]; rfl, below_drewN HE6.below _⟩
          · have hnx : ∀ ty, (Instr.next (.pointer (some ⟨kJ, 0, none⟩)) true ty).run Tryz.prog wr = _ := fun ty => next_lit_at (P := Tryz.prog) wr kJ [83, 84, 68] 2 ty 68 68 hit.out rfl (by decide) (by decide)
            have HE5 : EncW w (wr.iterAt kJ (bsl [83, 84, 68]) (2 + 1)) i bs vK vB := HE.iterAt hlk2 _ _
            have hit5 : Hid ((wr.iterAt kJ (bsl [83, 84, 68]) (2 + 1)).heap[kJ]? = some (.stringIter (bsl [83, 84, 68]) 3)) := Lib.iterAt_heap wr kJ _ 2 _ hit.out
            generalize (wr.iterAt kJ (bsl [83, 84, 68]) (2 + 1)) = w5 at hnx HE5 hit5
            obtain ⟨c0, c1, c2, c3, c4⟩ := HE5.shape.cells
            obtain ⟨d0', d1', d2', d3', d4'⟩ := HE5.ins.cells
            by_cases hcon : (fieldsB i.op.toNat).contains 68 = true
            · have HC := Lib.hid hcon
              clear hcon
              go_wp2_with (go_at_call 59; refine (containsRune_yes _ 68 HC 68 (by decide) (by decide) _).mono ?_; rintro e w' ⟨rfl, rfl⟩)
              go_roundw
              case rel => exact ⟨3, by omega, any_snoc rfl hany.out (bad2_yes i 68 HC.out), hit5, HE5⟩
              case measure => rw [iterPos_of hit5.out, HM.out]; omega
            · have HC := Lib.hid (Bool.eq_false_iff.2 hcon)
              clear hcon
              go_wp2_with (go_at_call 59; refine (containsRune_no _ 68 HC 68 (by decide) (by decide) _).mono ?_; rintro e w' ⟨rfl, rfl⟩)
              refine (value_68 _ _).mono ?_
              rintro e w6 ⟨rfl, hb6⟩
              have HE6 := HE5.trans hb6
              have hit6 := iter_below hit5 hb6
              have hkb := HE6.kB
              clear HE5 hit5 hb6 c0 c1 c2 c3 c4 d0' d1' d2' d3' d4'
              by_cases hv : i.d = 0
              · have hv1 : (i.d != 0) = false := by rw [hv]; rfl
                have HV := Lib.hid hv
                clear hv
                go_wp2
                go_roundw
                case rel => exact ⟨3, by omega, any_snoc rfl hany.out (bad2_zero i 68 HV.out), hit6, HE6⟩
                case measure => rw [iterPos_of hit6.out, HM.out]; omega
              · have hv1 : (i.d != 0) = true := by rw [bne_iff_ne]; exact hv
                have hbad : encBad i = true := bad_2 i 68 (by decide) HC.out hv
                go_wp2
                go_quiet (fail)
                go_wp2
                go_ret2
                exact ⟨by rw [encRes_bad hbad]; rfl, below_drewN HE6.below _⟩
        · have hnx : ∀ ty, (Instr.next (.pointer (some ⟨kJ, 0, none⟩)) true ty).run Tryz.prog wr = _ := fun ty => next_fin_at (P := Tryz.prog) wr kJ [83, 84, 68] j ty hit.out hlt
          obtain ⟨c0, c1, c2, c3, c4⟩ := HE.shape.cells
          obtain ⟨d0', d1', d2', d3', d4'⟩ := HE.ins.cells
          have hj3 : ([83, 84, 68] : List UInt8).take j = [83, 84, 68] := List.take_of_length_le (by simp; omega)
          have HA2 := hany.out
          rw [hj3] at HA2
          have HA3 := Lib.hid HA2
          clear HA2 hj3 hany
          go_wp2_with fail
          have h128 : ∀ x ∈ fieldsB i.op.toNat, x.toNat < 128 := fun x hx => letter_ascii x (fieldsB_letter _ x hx)
          have hlen := fieldsB_short i.op.toNat
          by_cases h3 : (fieldsB i.op.toNat).any ([97, 105, 106].contains ·) = true
          · have H3 := Lib.hid h3
            clear h3
            refine (containsAny_is _ [97, 105, 106] _ H3 (by omega) (by decide) h128 (by decide) _).mono ?_
            rintro e w6 ⟨rfl, hb6⟩
            have HE6 := HE.trans hb6
            have hgood : encBad i = false := good_of i HALL2.out HA3.out (Or.inl H3.out)
            clear h128 hlen HE hb6 hit c0 c1 c2 c3 c4 d0' d1' d2' d3' d4' hnx
            go_wp2
            go_ret2
            exact ⟨by rw [encRes_good hgood]; rfl, HE6.below⟩
          · have H3 := Lib.hid (Bool.eq_false_iff.2 h3)
            clear h3
            refine (containsAny_is _ [97, 105, 106] _ H3 (by omega) (by decide) h128 (by decide) _).mono ?_
            rintro e w6 ⟨rfl, hb6⟩
            have HE6 := HE.trans hb6
            obtain ⟨e0, e1, e2, e3, e4⟩ := HE6.ins.cells
            have hkb := HE6.kB
            clear h128 hlen HE hb6 hit c0 c1 c2 c3 c4 d0' d1' d2' d3' d4' hnx
            by_cases hv : i.imm = 0
            · have hv1 : (i.imm != 0) = false := by rw [hv]; rfl
              have hgood : encBad i = false := good_of i HALL2.out HA3.out (Or.inr hv)
              clear hv
              go_wp2
              go_ret2
              exact ⟨by rw [encRes_good hgood]; rfl, HE6.below⟩
            · have hv1 : (i.imm != 0) = true := by rw [bne_iff_ne]; exact hv
              have hbad : encBad i = true := bad_3 i H3.out hv
              go_wp2
              go_quiet (fail)
              go_wp2
              go_ret2
              exact ⟨by rw [encRes_bad hbad]; rfl, below_drewN HE6.below _⟩
end Go.Proofs.YtnppegldebocmaaGreatDoor
