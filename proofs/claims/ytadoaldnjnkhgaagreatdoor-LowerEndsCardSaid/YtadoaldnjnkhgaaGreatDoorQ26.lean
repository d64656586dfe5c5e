/- The walks of the document's bus where an address is memory's. The walk of the document's deviceError. The walks of the document's bus beyond memory, where there is no device. The walk of the document's bus, loads from devices. The walk of the document's bus, stores to devices. The document's bus as a whole: what a load and a store do, in memory and at devices. The walk of the document's step of an instruction: a state and a bus. The walk of the document's KindOf. Conditions: as each theorem states. -/
import Derived.Test.YtadoaldnjnkhgaaGreatDoorQ20
import Derived.Maps.OwnRows
import Derived.Maps.AppendAt
import Derived.Laws.BytesArg
import Derived.Test.YtadoaldnjnkhgaaGreatDoorQ14
import Derived.Deep.RegionHeld3
import Derived.Test.YtadoaldnjnkhgaaGreatDoorQ04
import Derived.Test.YtadoaldnjnkhgaaGreatDoorQ15
set_option linter.unusedVariables false
set_option linter.unusedSimpArgs false
namespace Go.Proofs.YtadoaldnjnkhgaaGreatDoor
open Go.RowKit
abbrev BusB (w : World) (b r : Nat) (out lamp trace : Value) : Prop := w.heap[b]? = some (Obj.cells #[.pointer (some ⟨r, 0, none⟩), out, lamp, trace] 96 (0, 0))
theorem BusB.cells {w : World} {b r : Nat} {a0 a1 a2 : Value} (h : BusB w b r a0 a1 a2) : w.cell? ⟨b, 0, none⟩ = some (.pointer (some ⟨r, 0, none⟩)) ∧ w.cell? ⟨b, 1, none⟩ = some a0 ∧ w.cell? ⟨b, 2, none⟩ = some a1 ∧ w.cell? ⟨b, 3, none⟩ = some a2 := by
  unfold BusB at h
  refine ⟨?_, ?_, ?_, ?_⟩ <;> simp [World.cell?, h]
section
variable {w : World} {b r bw ba bh : Nat} {ws : List Int} {wt ht : Nat → Bool} {a0 a1 a2 : Value}
theorem busLoad_yes (hB : BusB w b r a0 a1 a2) (h : RamM w r bw ba bh ws wt ht) (a n : Nat) (hn : n = 1 ∨ n = 2 ∨ n = 4) (s : Bool) (hs : n = 4 → s = false) (hr : reach (a : Int) n = true) (c : Int) :
    Calls Tryz.prog 136 #[.pointer (some ⟨b, 0, none⟩), .int .u32 (a : Int), .int .i64 (n : Int), .bool s, .int .i64 c] w fun e w' => e = .returned (.tuple #[.int .u32 (wideZ (loadN ws a n) n s), .int .i64 0]) ∧ w = w' := by
  have HL := Lib.hid (load_yes h a n hn s hs hr)
  have ha : (a : Int) < 16384 := (reach_parts hr).2
  obtain ⟨c0, c1, c2, c3⟩ := hB.cells
  clear h hB hn hs hr
  go_enter Tryz.func136, Tryz.ntmps136
  go_wp2_with fail
  refine HL.out.mono ?_
  rintro e w1 ⟨rfl, rfl⟩
  go_wp2
  go_ret2
  exact ⟨rfl, rfl⟩
theorem busLoad_no (hB : BusB w b r a0 a1 a2) (h : RamM w r bw ba bh ws wt ht) (a : Int) (h0 : 0 ≤ a) (h1 : a < 16384) (n : Nat) (hn : n = 1 ∨ n = 2 ∨ n = 4) (s : Bool) (hr : ¬ reach a n = true) (c : Int) :
    Calls Tryz.prog 136 #[.pointer (some ⟨b, 0, none⟩), .int .u32 a, .int .i64 (n : Int), .bool s, .int .i64 c] w fun e w' => e = .returned (.tuple #[.int .u32 0, .int .i64 (reachErr a n : Int)]) ∧ w = w' := by
  have HL := Lib.hid (load_no h a h0 (by omega) n hn s hr)
  obtain ⟨c0, c1, c2, c3⟩ := hB.cells
  clear h hB hn hr
  generalize (reachErr a n : Int) = er at *
  go_enter Tryz.func136, Tryz.ntmps136
  go_wp2_with fail
  refine HL.out.mono ?_
  rintro e w1 ⟨rfl, rfl⟩
  go_wp2
  go_ret2
  exact ⟨rfl, rfl⟩
theorem busStore_yes (hB : BusB w b r a0 a1 a2) (h : RamM w r bw ba bh ws wt ht) (a n : Nat) (hn : n = 1 ∨ n = 2 ∨ n = 4) (v : Int) (v0 : 0 ≤ v) (v1 : v < 4294967296) (hr : reach (a : Int) n = true) (c : Int) :
    Calls Tryz.prog 137 #[.pointer (some ⟨b, 0, none⟩), .int .u32 (a : Int), .int .i64 (n : Int), .int .u32 v, .int .i64 c] w fun e w' => e = .returned (.int .i64 0) ∧ RamM w' r bw ba bh (storeN a n v n ws) wt (hitN wt ht (a / 256)) ∧ Kept (fun k => k = bw ∨ k = bh) w w' := by
  have HL := Lib.hid (store_yes h a n hn v v0 v1 hr)
  have ha : (a : Int) < 16384 := (reach_parts hr).2
  obtain ⟨c0, c1, c2, c3⟩ := hB.cells
  clear h hB hn hr
  go_enter Tryz.func137, Tryz.ntmps137
  go_wp2_with fail
  refine HL.out.mono ?_
  rintro e w1 ⟨rfl, hR, hK⟩
  have HR := Lib.hid hR
  have HK := Lib.hid hK
  clear hR hK c0 c1 c2 c3
  go_wp2
  go_ret
  exact ⟨rfl, HR.out, HK.out⟩
theorem busStore_no (hB : BusB w b r a0 a1 a2) (a : Int) (h0 : 0 ≤ a) (h1 : a < 16384) (n : Nat) (hn : n = 1 ∨ n = 2 ∨ n = 4) (v : Int) (hr : ¬ reach a n = true) (c : Int) :
    Calls Tryz.prog 137 #[.pointer (some ⟨b, 0, none⟩), .int .u32 a, .int .i64 (n : Int), .int .u32 v, .int .i64 c] w fun e w' => e = .returned (.int .i64 (reachErr a n : Int)) ∧ w = w' := by
  have HL := Lib.hid (store_no (r := r) a h0 (by omega) n hn v hr w)
  obtain ⟨c0, c1, c2, c3⟩ := hB.cells
  clear hB hn hr
  generalize (reachErr a n : Int) = er at *
  go_enter Tryz.func137, Tryz.ntmps137
  go_wp2_with fail
  refine HL.out.mono ?_
  rintro e w1 ⟨rfl, rfl⟩
  go_wp2
  go_ret
  exact ⟨rfl, rfl⟩
end
end Go.Proofs.YtadoaldnjnkhgaaGreatDoor
namespace Go.Proofs.YtadoaldnjnkhgaaGreatDoor
open Go.RowKit
def devErr (a : Int) (n : Nat) : Nat := if reachErr a n ≠ 10 then reachErr a n else if n = 4 ∧ 65536 ≤ a ∧ a ≤ 65548 then 0 else 10
theorem deviceError_any (a : Int) (h0 : 0 ≤ a) (h1 : a < 4294967296) (n : Nat) (hn : n = 1 ∨ n = 2 ∨ n = 4) (w : World) :
    Calls Tryz.prog 152 #[.int .u32 a, .int .i64 (n : Int)] w fun e w' => e = .returned (.int .i64 (devErr a n : Int)) ∧ w = w' := by
  have HE := Lib.hid (reachError_any a h0 h1 n hn w)
  by_cases h : reachErr a n ≠ 10
  · have hd : devErr a n = reachErr a n := by unfold devErr; rw [if_pos h]
    rw [hd]
    have e1 : ((reachErr a n : Int) == 10) = false := by simp only [beq_eq_false_iff_ne, ne_eq]; omega
    generalize (reachErr a n : Int) = er at *
    clear hn h hd
    go_enter Tryz.func152, Tryz.ntmps152
    go_wp2_with fail
    refine HE.out.mono ?_
    rintro e w1 ⟨rfl, rfl⟩
    go_wp2
    go_ret
    exact ⟨rfl, rfl⟩
  · have h10 : (reachErr a n : Int) = 10 := by omega
    rw [h10] at HE
    by_cases hd : n = 4 ∧ 65536 ≤ a ∧ a ≤ 65548
    · have hv : devErr a n = 0 := by unfold devErr; rw [if_neg h, if_pos hd]
      rw [hv]
      obtain ⟨rfl, d1, d2⟩ := hd
      clear hn h h10 hv
      go_enter Tryz.func152, Tryz.ntmps152
      go_wp2_with fail
      refine HE.out.mono ?_
      rintro e w1 ⟨rfl, rfl⟩
      go_wp2
      go_ret
      exact ⟨rfl, rfl⟩
    · have hv : devErr a n = 10 := by unfold devErr; rw [if_neg h, if_neg hd]
      rw [hv]
      clear h h10 hv
      by_cases hn4 : n = 4
      · subst hn4
        by_cases ha : 65536 ≤ a
        · have ha2 : decide (a ≤ 65548) = false := decide_eq_false (fun e => hd ⟨rfl, ha, e⟩)
          clear hd hn
          go_enter Tryz.func152, Tryz.ntmps152
          go_wp2_with fail
          refine HE.out.mono ?_
          rintro e w1 ⟨rfl, rfl⟩
          go_wp2
          go_ret
          exact ⟨rfl, rfl⟩
        · have ha2 : decide (65536 ≤ a) = false := decide_eq_false ha
          clear hd hn
          go_enter Tryz.func152, Tryz.ntmps152
          go_wp2_with fail
          refine HE.out.mono ?_
          rintro e w1 ⟨rfl, rfl⟩
          go_wp2
          go_ret
          exact ⟨rfl, rfl⟩
      · have e4 : ((n : Int) == 4) = false := by simp only [beq_eq_false_iff_ne, ne_eq]; omega
        clear hd hn hn4
        go_enter Tryz.func152, Tryz.ntmps152
        go_wp2_with fail
        refine HE.out.mono ?_
        rintro e w1 ⟨rfl, rfl⟩
        go_wp2
        go_ret
        exact ⟨rfl, rfl⟩
end Go.Proofs.YtadoaldnjnkhgaaGreatDoor
namespace Go.Proofs.YtadoaldnjnkhgaaGreatDoor
open Go.RowKit
section
variable {w : World} {b : Nat}
theorem busLoad_off (a : Int) (h0 : 16384 ≤ a) (h1 : a < 4294967296) (n : Nat) (hn : n = 1 ∨ n = 2 ∨ n = 4) (s : Bool) (hd : 0 < devErr a n) (c : Int) :
    Calls Tryz.prog 136 #[.pointer (some ⟨b, 0, none⟩), .int .u32 a, .int .i64 (n : Int), .bool s, .int .i64 c] w fun e w' => e = .returned (.tuple #[.int .u32 0, .int .i64 (devErr a n : Int)]) ∧ w = w' := by
  have HL := Lib.hid (deviceError_any a (by omega) h1 n hn w)
  have hp : (0 : Int) < (devErr a n : Int) := by omega
  have ha : decide (a < 16384) = false := decide_eq_false (by omega)
  have hi : IntKind.i64.wrap a = a := IntWalk.i64_in _ ⟨by omega, by omega⟩
  generalize (devErr a n : Int) = er at *
  have a0 : 0 ≤ a := by omega
  clear hn hd
  go_enter Tryz.func136, Tryz.ntmps136
  go_wp2_with fail
  refine HL.out.mono ?_
  rintro e w1 ⟨rfl, rfl⟩
  go_wp2
  go_ret2
  exact ⟨rfl, rfl⟩
theorem busStore_off (a : Int) (h0 : 16384 ≤ a) (h1 : a < 4294967296) (n : Nat) (hn : n = 1 ∨ n = 2 ∨ n = 4) (v : Int) (hd : 0 < devErr a n) (c : Int) :
    Calls Tryz.prog 137 #[.pointer (some ⟨b, 0, none⟩), .int .u32 a, .int .i64 (n : Int), .int .u32 v, .int .i64 c] w fun e w' => e = .returned (.int .i64 (devErr a n : Int)) ∧ w = w' := by
  have HL := Lib.hid (deviceError_any a (by omega) h1 n hn w)
  have hp : (0 : Int) < (devErr a n : Int) := by omega
  have ha : decide (a < 16384) = false := decide_eq_false (by omega)
  have hi : IntKind.i64.wrap a = a := IntWalk.i64_in _ ⟨by omega, by omega⟩
  generalize (devErr a n : Int) = er at *
  have a0 : 0 ≤ a := by omega
  clear hn hd
  go_enter Tryz.func137, Tryz.ntmps137
  go_wp2_with fail
  refine HL.out.mono ?_
  rintro e w1 ⟨rfl, rfl⟩
  go_wp2
  go_ret
  exact ⟨rfl, rfl⟩
end
end Go.Proofs.YtadoaldnjnkhgaaGreatDoor
namespace Go.Proofs.YtadoaldnjnkhgaaGreatDoor
open Go.RowKit
structure AccN where
  count : Int
  store : Bool
  addr : Int
  value : Int
def accG (a : AccN) : List Value := [.int .i64 a.count, .bool a.store, .int .u32 a.addr, .int .u32 a.value]
abbrev TrO (w : World) (B : Nat) (v : Value) (tr : List AccN) : Prop := w.ownsRow B 236 4 v tr.length (tr.flatMap accG)
theorem Tryz.infoAc : (Tryz.prog.info? 236).map (fun i => (i.zero, i.size, i.bytes)) = some (some (.agg #[.int .i64 0, .bool false, .int .u32 0, .int .u32 0]), 4, 24) := by kernel_rfl
theorem four_newsG (w : World) (a b c d : Value) (t : TypeId) : ∀ j v, [a, b, c, d][j]? = some v → (w.alloc (.cells #[a, b, c, d] t)).cell? ((⟨w.heap.size, 0, none⟩ : Addr).add j) = some v := by
  intro j u hj
  rw [addr_add]
  simp only [World.cell?, heap_alloc_new]
  show #[a, b, c, d][j]? = some u
  rw [← Array.getElem?_toList]
  exact hj
structure BusD (w : World) (B b r : Nat) (out : List UInt8) (lamp : Int) (tv : Value) (tr : List AccN) : Prop where
  bus : BusB w b r (.string (bsl out)) (.int .u32 lamp) tv
  own : TrO w B tv tr
  lt : b < B
  le : B ≤ w.heap.size
def Traced (w : World) (B b r : Nat) (out : List UInt8) (lamp : Int) (tv : Value) (tr : List AccN) (w' : World) : Prop :=
  ∃ tv', BusD w' B b r out lamp tv' tr ∧ Kept (fun k => k = b ∨ tv.ownBlock = some k) w w' ∧ (tv'.ownBlock = tv.ownBlock ∨ ∃ g, tv'.ownBlock = some g ∧ w.heap.size ≤ g)
theorem TrO.block {w : World} {B : Nat} {v : Value} {tr : List AccN} (h : TrO w B v tr) {g : Nat} (hg : v.ownBlock = some g) : B ≤ g ∧ g < w.heap.size := by
  rcases h.2 with ⟨hv, _⟩ | ⟨g', cap, cur, hv, hB, hh, _⟩
  · rw [hv] at hg; cases hg
  · rw [hv] at hg
    cases hg
    exact ⟨hB, (Array.getElem?_eq_some_iff.1 hh).1⟩
theorem TrO.of_block {w w' : World} {B : Nat} {v : Value} {tr : List AccN} (h : TrO w B v tr) (he : ∀ g, v.ownBlock = some g → w'.heap[g]? = w.heap[g]?) : TrO w' B v tr := by
  obtain ⟨hl, h'⟩ := h
  refine ⟨hl, ?_⟩
  rcases h' with hn | ⟨g, cap, cur, hv, hB, hh, rest⟩
  · exact .inl hn
  · exact .inr ⟨g, cap, cur, hv, hB, (he g (by rw [hv]; rfl)).trans hh, rest⟩
theorem BusD.of_blocks {w w' : World} {B b r : Nat} {out : List UInt8} {lamp : Int} {tv : Value} {tr : List AccN} (h : BusD w B b r out lamp tv tr) (hb : w'.heap[b]? = w.heap[b]?) (ht : ∀ g, tv.ownBlock = some g → w'.heap[g]? = w.heap[g]?) (hs : w.heap.size ≤ w'.heap.size) : BusD w' B b r out lamp tv tr :=
  ⟨hb.trans h.bus, h.own.of_block ht, h.lt, Nat.le_trans h.le hs⟩
theorem BusD.below {w w' : World} {B b r : Nat} {out : List UInt8} {lamp : Int} {tv : Value} {tr : List AccN} (h : BusD w B b r out lamp tv tr) (hb : Below w.heap.size w w') : BusD w' B b r out lamp tv tr :=
  h.of_blocks (hb.block b (Nat.lt_of_lt_of_le h.lt h.le)) (fun g hg => hb.block g (h.own.block hg).2) hb.size
theorem traced_of {w w4 w5 : World} {B b r : Nat} {out : List UInt8} {lamp : Int} {tv v5 : Value} {tr : List AccN} {ac : AccN} {o : Obj} (h : BusD w B b r out lamp tv tr) (hw4 : w4 = w.alloc o)
    (hown : w5.ownsRow B 236 4 v5 (tr.length + 1) (tr.flatMap accG ++ accG ac)) (hg : w4.grownBy w5 tv.ownBlock) (hv : v5.ownBlock = tv.ownBlock ∨ v5.ownBlock = some (w.heap.size + 1)) :
    BusB w5 b r (.string (bsl out)) (.int .u32 lamp) tv ∧ Traced w B b r out lamp tv (tr ++ [ac]) (w5.setCell ⟨b, 3, none⟩ v5) := by
  subst hw4
  have hlt : b < w.heap.size := Nat.lt_of_lt_of_le h.lt h.le
  have hne : tv.ownBlock ≠ some b := fun e => by have := (h.own.block e).1; have := h.lt; omega
  have hA := (Below.refl w.heap.size w).alloc (Nat.le_refl _) o
  have hb5 : w5.heap[b]? = w.heap[b]? := (hg.block b (by simp; omega) (fun e => hne e.symm)).trans (hA.block b hlt)
  have hK5 : Kept (fun k => k = b ∨ tv.ownBlock = some k) w w5 := ⟨⟨hg.os.trans hA.os, hg.tape.trans hA.tape, hg.output.trans hA.output, Nat.le_trans hA.size hg.size, fun k hk => absurd hk (Nat.not_lt_zero k)⟩,
    fun k hk hs => (hg.block k (by simp; omega) (fun e => hs (.inr e.symm))).trans (hA.block k hk)⟩
  have hB5 : BusB w5 b r (.string (bsl out)) (.int .u32 lamp) tv := hb5.trans h.bus
  refine ⟨hB5, v5, ⟨Joins.block_setCell (i := 3) hB5 _, ?_, h.lt, ?_⟩, ?_, ?_⟩
  · have ho : TrO w5 B v5 (tr ++ [ac]) := by
      unfold TrO
      rw [List.length_append, List.flatMap_append]
      simpa using hown
    refine ho.of_block (fun g hgv => setCell_other w5 b 3 g v5 (fun e => ?_))
    subst e
    have := (ho.block hgv).1
    have := h.lt
    omega
  · have := hg.size
    have := hA.size
    have := h.le
    have hsz := ((Below.refl 0 w5).setCell (p := ⟨b, 3, none⟩) (Nat.zero_le _) v5).size
    have : w.heap.size ≤ (w.alloc o).heap.size := hA.size
    omega
  · exact hK5.trans ((Kept.set w5 b 3 v5).mono (fun k e => .inl e))
  · rcases hv with e | e
    · exact .inl e
    · exact .inr ⟨_, e, by simp⟩
theorem owns_some {w : World} {B k n : Nat} {e : TypeId} {v : Value} {xs : List Value} (h : w.ownsRow B e k v n xs) (hn : 0 < n) : ∃ a m c, v = .slice (some a) m c := by
  rcases Joins.ownsRow_forms h with ⟨_, hz⟩ | ⟨g, cap, hv⟩
  · omega
  · exact ⟨_, _, _, hv⟩
theorem byte_any (u : Nat) (h : u < 256) (w : World) : Calls Tryz.prog 153 #[.int .i64 (u : Int)] w fun e w' => e = .returned (.string (bsl [UInt8.ofNat u])) ∧ Below w.heap.size w w' := by
  have hu : (u : Int) < 256 := by omega
  have hR : strOfNums [(u : Int)] = bsl [UInt8.ofNat u] := by simp [strOfNums, bsl]
  have hB := (Below.refl w.heap.size w).alloc (Nat.le_refl _) (.cells #[.int .u8 (u : Int)] 5)
  have hcv := run_convert_bytes_arg (P := Tryz.prog) (w.alloc (.cells #[.int .u8 (u : Int)] 5)) 111 5 Tryz.underlying111 Tryz.underlying5 w.heap.size 0 1 1 [(u : Int)] rfl (by
    intro i hi
    obtain rfl : i = 0 := by omega
    unfold World.cell?
    rw [heap_alloc_new]
    rfl) 9 Tryz.underlying9
  rw [hR] at hcv
  generalize bsl [UInt8.ofNat u] = R at *
  have h0 : (0 : Int) ≤ (u : Int) := by omega
  clear hR h
  generalize (u : Int) = z at *
  go_enter Tryz.func153, Tryz.ntmps153
  go_wp2_with fail
  go_ret
  exact ⟨rfl, hB⟩
section
variable {w : World} {B b r : Nat} {out : List UInt8} {lamp : Int} {tv : Value} {tr : List AccN}
set_option maxHeartbeats 4000000 in
set_option maxRecDepth 100000 in
theorem busLoad_65536 (h : BusD w B b r out lamp tv tr) (htr : tr.length ≤ 1000000) (s : Bool) (c : Int) (hc0 : 0 ≤ c) (hc1 : c ≤ 4611686018427387903) :
    Calls Tryz.prog 136 #[.pointer (some ⟨b, 0, none⟩), .int .u32 65536, .int .i64 4, .bool s, .int .i64 c] w fun e w' => e = .returned (.tuple #[.int .u32 (0), .int .i64 0]) ∧ Traced w B b r out lamp tv (tr ++ [⟨c, false, 65536, 0⟩]) w' := by
  obtain ⟨iA, hA1, hA2, hA3, hA4⟩ := info_parts Tryz.infoAc
  have HL := Lib.hid (deviceError_any 65536 (by decide) (by decide) 4 (by decide) w)
  rw [show devErr 65536 4 = 0 from rfl] at HL
  have HD := Lib.hid h
  have HAL := Lib.hid (fun (o : Obj) => (h.below ((Below.refl w.heap.size w).alloc (Nat.le_refl _) o)).own)
  have HTR := Lib.hid htr
  obtain ⟨c0, c1, c2, c3⟩ := h.bus.cells
  clear h htr hc0 hc1
  go_enter Tryz.func136, Tryz.ntmps136
  go_wp2_with fail
  refine HL.out.mono ?_
  rintro e w1 ⟨rfl, rfl⟩
  go_wp2_with (at_builtin; refine wpList_append_own_at _ rfl (.tmp 48) (.tmp 53) 94 rfl B 236 iA (.agg #[.int .i64 0, .bool false, .int .u32 0, .int .u32 0]) 4 24 Tryz.underlying94 hA1 hA2 hA3 hA4 rfl (by decide) tv tr.length (tr.flatMap accG) rfl (HAL.out _) _ 1 1 [.int .i64 c, .bool false, .int .u32 65536, .int .u32 (0)] rfl rfl (four_newsG w _ _ _ _ _) (by intro u hu; simp at hu; rcases hu with rfl | rfl | rfl | rfl <;> rfl) (by have := HTR.out; unfold maxLen; omega) (by have := HTR.out; omega) (by have := HD.out.le; simp; omega) ?_)
  intro v5 w5 hown5 hgr5 _ hv5
  obtain ⟨hB5, hT⟩ := traced_of HD.out (ac := ⟨c, false, 65536, 0⟩) rfl hown5 hgr5 hv5
  obtain ⟨t5, k5, c5, rfl⟩ := owns_some hown5 (by omega)
  have HT := Lib.hid hT
  obtain ⟨c0, c1, c2, c3⟩ := hB5.cells
  have f3 : w5.frozen? ⟨b, 3, none⟩ = false := by simp [World.frozen?, hB5]
  clear hT hB5 hown5 hgr5 hv5
  go_wp2
  go_ret2
  exact ⟨rfl, HT.out⟩
set_option maxHeartbeats 4000000 in
set_option maxRecDepth 100000 in
theorem busLoad_65540 (h : BusD w B b r out lamp tv tr) (htr : tr.length ≤ 1000000) (s : Bool) (c : Int) (hc0 : 0 ≤ c) (hc1 : c ≤ 4611686018427387903) :
    Calls Tryz.prog 136 #[.pointer (some ⟨b, 0, none⟩), .int .u32 65540, .int .i64 4, .bool s, .int .i64 c] w fun e w' => e = .returned (.tuple #[.int .u32 (c % 4294967296), .int .i64 0]) ∧ Traced w B b r out lamp tv (tr ++ [⟨c, false, 65540, c % 4294967296⟩]) w' := by
  obtain ⟨iA, hA1, hA2, hA3, hA4⟩ := info_parts Tryz.infoAc
  have HL := Lib.hid (deviceError_any 65540 (by decide) (by decide) 4 (by decide) w)
  rw [show devErr 65540 4 = 0 from rfl] at HL
  have HD := Lib.hid h
  have HAL := Lib.hid (fun (o : Obj) => (h.below ((Below.refl w.heap.size w).alloc (Nat.le_refl _) o)).own)
  have HTR := Lib.hid htr
  obtain ⟨c0, c1, c2, c3⟩ := h.bus.cells
  have HW := Lib.hid (word_any c (by omega) (by omega) w)
  have HV : Hid (∃ z, c % 4294967296 = z) := Lib.hid ⟨_, rfl⟩
  clear h htr hc0 hc1
  go_enter Tryz.func136, Tryz.ntmps136
  go_wp2_with fail
  refine HL.out.mono ?_
  rintro e w1 ⟨rfl, rfl⟩
  go_wp2_with fail
  refine HW.out.mono ?_
  rintro e w1 ⟨rfl, rfl⟩
  go_wp2_with (at_builtin; refine wpList_append_own_at _ rfl (.tmp 48) (.tmp 53) 94 rfl B 236 iA (.agg #[.int .i64 0, .bool false, .int .u32 0, .int .u32 0]) 4 24 Tryz.underlying94 hA1 hA2 hA3 hA4 rfl (by decide) tv tr.length (tr.flatMap accG) rfl (HAL.out _) _ 1 1 [.int .i64 c, .bool false, .int .u32 65540, .int .u32 (c % 4294967296)] rfl rfl (four_newsG w _ _ _ _ _) (by intro u hu; simp at hu; rcases hu with rfl | rfl | rfl | rfl <;> rfl) (by have := HTR.out; unfold maxLen; omega) (by have := HTR.out; omega) (by have := HD.out.le; simp; omega) ?_)
  intro v5 w5 hown5 hgr5 _ hv5
  obtain ⟨hB5, hT⟩ := traced_of HD.out (ac := ⟨c, false, 65540, c % 4294967296⟩) rfl hown5 hgr5 hv5
  obtain ⟨t5, k5, c5, rfl⟩ := owns_some hown5 (by omega)
  have HT := Lib.hid hT
  obtain ⟨c0, c1, c2, c3⟩ := hB5.cells
  have f3 : w5.frozen? ⟨b, 3, none⟩ = false := by simp [World.frozen?, hB5]
  clear hT hB5 hown5 hgr5 hv5
  go_wp2
  go_ret2
  exact ⟨rfl, HT.out⟩
set_option maxHeartbeats 4000000 in
set_option maxRecDepth 100000 in
theorem busLoad_65544 (h : BusD w B b r out lamp tv tr) (htr : tr.length ≤ 1000000) (s : Bool) (c : Int) (hc0 : 0 ≤ c) (hc1 : c ≤ 4611686018427387903) :
    Calls Tryz.prog 136 #[.pointer (some ⟨b, 0, none⟩), .int .u32 65544, .int .i64 4, .bool s, .int .i64 c] w fun e w' => e = .returned (.tuple #[.int .u32 (lamp), .int .i64 0]) ∧ Traced w B b r out lamp tv (tr ++ [⟨c, false, 65544, lamp⟩]) w' := by
  obtain ⟨iA, hA1, hA2, hA3, hA4⟩ := info_parts Tryz.infoAc
  have HL := Lib.hid (deviceError_any 65544 (by decide) (by decide) 4 (by decide) w)
  rw [show devErr 65544 4 = 0 from rfl] at HL
  have HD := Lib.hid h
  have HAL := Lib.hid (fun (o : Obj) => (h.below ((Below.refl w.heap.size w).alloc (Nat.le_refl _) o)).own)
  have HTR := Lib.hid htr
  obtain ⟨c0, c1, c2, c3⟩ := h.bus.cells
  clear h htr hc0 hc1
  go_enter Tryz.func136, Tryz.ntmps136
  go_wp2_with fail
  refine HL.out.mono ?_
  rintro e w1 ⟨rfl, rfl⟩
  go_wp2_with (at_builtin; refine wpList_append_own_at _ rfl (.tmp 48) (.tmp 53) 94 rfl B 236 iA (.agg #[.int .i64 0, .bool false, .int .u32 0, .int .u32 0]) 4 24 Tryz.underlying94 hA1 hA2 hA3 hA4 rfl (by decide) tv tr.length (tr.flatMap accG) rfl (HAL.out _) _ 1 1 [.int .i64 c, .bool false, .int .u32 65544, .int .u32 (lamp)] rfl rfl (four_newsG w _ _ _ _ _) (by intro u hu; simp at hu; rcases hu with rfl | rfl | rfl | rfl <;> rfl) (by have := HTR.out; unfold maxLen; omega) (by have := HTR.out; omega) (by have := HD.out.le; simp; omega) ?_)
  intro v5 w5 hown5 hgr5 _ hv5
  obtain ⟨hB5, hT⟩ := traced_of HD.out (ac := ⟨c, false, 65544, lamp⟩) rfl hown5 hgr5 hv5
  obtain ⟨t5, k5, c5, rfl⟩ := owns_some hown5 (by omega)
  have HT := Lib.hid hT
  obtain ⟨c0, c1, c2, c3⟩ := hB5.cells
  have f3 : w5.frozen? ⟨b, 3, none⟩ = false := by simp [World.frozen?, hB5]
  clear hT hB5 hown5 hgr5 hv5
  go_wp2
  go_ret2
  exact ⟨rfl, HT.out⟩
set_option maxHeartbeats 4000000 in
set_option maxRecDepth 100000 in
theorem busLoad_65548 (h : BusD w B b r out lamp tv tr) (htr : tr.length ≤ 1000000) (s : Bool) (c : Int) (hc0 : 0 ≤ c) (hc1 : c ≤ 4611686018427387903) :
    Calls Tryz.prog 136 #[.pointer (some ⟨b, 0, none⟩), .int .u32 65548, .int .i64 4, .bool s, .int .i64 c] w fun e w' => e = .returned (.tuple #[.int .u32 (0), .int .i64 0]) ∧ Traced w B b r out lamp tv (tr ++ [⟨c, false, 65548, 0⟩]) w' := by
  obtain ⟨iA, hA1, hA2, hA3, hA4⟩ := info_parts Tryz.infoAc
  have HL := Lib.hid (deviceError_any 65548 (by decide) (by decide) 4 (by decide) w)
  rw [show devErr 65548 4 = 0 from rfl] at HL
  have HD := Lib.hid h
  have HAL := Lib.hid (fun (o : Obj) => (h.below ((Below.refl w.heap.size w).alloc (Nat.le_refl _) o)).own)
  have HTR := Lib.hid htr
  obtain ⟨c0, c1, c2, c3⟩ := h.bus.cells
  clear h htr hc0 hc1
  go_enter Tryz.func136, Tryz.ntmps136
  go_wp2_with fail
  refine HL.out.mono ?_
  rintro e w1 ⟨rfl, rfl⟩
  go_wp2_with (at_builtin; refine wpList_append_own_at _ rfl (.tmp 48) (.tmp 53) 94 rfl B 236 iA (.agg #[.int .i64 0, .bool false, .int .u32 0, .int .u32 0]) 4 24 Tryz.underlying94 hA1 hA2 hA3 hA4 rfl (by decide) tv tr.length (tr.flatMap accG) rfl (HAL.out _) _ 1 1 [.int .i64 c, .bool false, .int .u32 65548, .int .u32 (0)] rfl rfl (four_newsG w _ _ _ _ _) (by intro u hu; simp at hu; rcases hu with rfl | rfl | rfl | rfl <;> rfl) (by have := HTR.out; unfold maxLen; omega) (by have := HTR.out; omega) (by have := HD.out.le; simp; omega) ?_)
  intro v5 w5 hown5 hgr5 _ hv5
  obtain ⟨hB5, hT⟩ := traced_of HD.out (ac := ⟨c, false, 65548, 0⟩) rfl hown5 hgr5 hv5
  obtain ⟨t5, k5, c5, rfl⟩ := owns_some hown5 (by omega)
  have HT := Lib.hid hT
  obtain ⟨c0, c1, c2, c3⟩ := hB5.cells
  have f3 : w5.frozen? ⟨b, 3, none⟩ = false := by simp [World.frozen?, hB5]
  clear hT hB5 hown5 hgr5 hv5
  go_wp2
  go_ret2
  exact ⟨rfl, HT.out⟩
end
end Go.Proofs.YtadoaldnjnkhgaaGreatDoor
namespace Go.Proofs.YtadoaldnjnkhgaaGreatDoor
open Go.RowKit
theorem bsl_app3 (a b : List UInt8) : bsl a ++ bsl b = bsl (a ++ b) := by
  simp [bsl, ByteArray.ext_iff]
theorem BusD.setLamp {w : World} {B b r : Nat} {out : List UInt8} {lamp : Int} {tv : Value} {tr : List AccN} (h : BusD w B b r out lamp tv tr) (v : Int) : BusD (w.setCell ⟨b, 2, none⟩ (.int .u32 v)) B b r out v tv tr :=
  ⟨Joins.block_setCell (i := 2) h.bus _, h.own.of_block (fun g hg => setCell_other w b 2 g _ (fun e => by subst e; have := (h.own.block hg).1; have := h.lt; omega)), h.lt, by rw [World.size_setCell]; exact h.le⟩
theorem BusD.setOut {w : World} {B b r : Nat} {out : List UInt8} {lamp : Int} {tv : Value} {tr : List AccN} (h : BusD w B b r out lamp tv tr) (o : List UInt8) : BusD (w.setCell ⟨b, 1, none⟩ (.string (bsl o))) B b r o lamp tv tr :=
  ⟨Joins.block_setCell (i := 1) h.bus _, h.own.of_block (fun g hg => setCell_other w b 1 g _ (fun e => by subst e; have := (h.own.block hg).1; have := h.lt; omega)), h.lt, by rw [World.size_setCell]; exact h.le⟩
theorem Traced.behind {w w2 w' : World} {B b r : Nat} {out : List UInt8} {lamp : Int} {tv : Value} {tr : List AccN} (h : Traced w2 B b r out lamp tv tr w') (hk : Kept (fun k => k = b) w w2) : Traced w B b r out lamp tv tr w' := by
  obtain ⟨tv', h1, h2, h3⟩ := h
  refine ⟨tv', h1, (hk.mono (fun k e => .inl e)).trans h2, ?_⟩
  rcases h3 with e | ⟨g, e, hg⟩
  · exact .inl e
  · exact .inr ⟨g, e, Nat.le_trans hk.below.size hg⟩
section
variable {w : World} {B b r : Nat} {out : List UInt8} {lamp : Int} {tv : Value} {tr : List AccN}
set_option maxHeartbeats 4000000 in
set_option maxRecDepth 100000 in
theorem busStore_65548 (h : BusD w B b r out lamp tv tr) (htr : tr.length ≤ 1000000) (hou : out.length ≤ 1000000) (v : Int) (v0 : 0 ≤ v) (v1 : v < 4294967296) (c : Int) :
    Calls Tryz.prog 137 #[.pointer (some ⟨b, 0, none⟩), .int .u32 65548, .int .i64 4, .int .u32 v, .int .i64 c] w fun e w' => e = .returned (.int .i64 0) ∧ Traced w B b r out lamp tv (tr ++ [⟨c, true, 65548, v⟩]) w' := by
  obtain ⟨iA, hA1, hA2, hA3, hA4⟩ := info_parts Tryz.infoAc
  have HL := Lib.hid (deviceError_any 65548 (by decide) (by decide) 4 (by decide) w)
  rw [show devErr 65548 4 = 0 from rfl] at HL
  have HD := Lib.hid h
  have HTR := Lib.hid htr
  obtain ⟨c0, c1, c2, c3⟩ := h.bus.cells
  clear h htr v0 v1 hou
  go_enter Tryz.func137, Tryz.ntmps137
  go_wp2_with fail
  refine HL.out.mono ?_
  rintro e w1 ⟨rfl, rfl⟩
  go_wp2_with (at_builtin; refine wpList_append_own_at _ rfl (.tmp 53) (.tmp 58) 94 rfl B 236 iA (.agg #[.int .i64 0, .bool false, .int .u32 0, .int .u32 0]) 4 24 Tryz.underlying94 hA1 hA2 hA3 hA4 rfl (by decide) tv tr.length (tr.flatMap accG) rfl (((HD.out).below ((Below.refl _ _).alloc (Nat.le_refl _) _)).own) _ 1 1 [.int .i64 c, .bool true, .int .u32 65548, .int .u32 v] rfl rfl (four_newsG _ _ _ _ _ _) (by intro u hu; simp at hu; rcases hu with rfl | rfl | rfl | rfl <;> rfl) (by have := HTR.out; unfold maxLen; omega) (by have := HTR.out; omega) (by have := HD.out.le; simp; omega) ?_)
  intro v5 w5 hown5 hgr5 _ hv5
  obtain ⟨hB5, hT⟩ := traced_of HD.out (ac := ⟨c, true, 65548, v⟩) rfl hown5 hgr5 hv5
  obtain ⟨t5, k5, c5, rfl⟩ := owns_some hown5 (by omega)
  have HT := Lib.hid hT
  obtain ⟨c0, c1, c2, c3⟩ := hB5.cells
  have f3 : w5.frozen? ⟨b, 3, none⟩ = false := by simp [World.frozen?, hB5]
  clear hT hB5 hown5 hgr5 hv5
  go_wp2
  go_ret
  exact ⟨rfl, HT.out⟩
set_option maxHeartbeats 4000000 in
set_option maxRecDepth 100000 in
theorem busStore_65540 (h : BusD w B b r out lamp tv tr) (htr : tr.length ≤ 1000000) (hou : out.length ≤ 1000000) (v : Int) (v0 : 0 ≤ v) (v1 : v < 4294967296) (c : Int) :
    Calls Tryz.prog 137 #[.pointer (some ⟨b, 0, none⟩), .int .u32 65540, .int .i64 4, .int .u32 v, .int .i64 c] w fun e w' => e = .returned (.int .i64 0) ∧ Traced w B b r out lamp tv (tr ++ [⟨c, true, 65540, v⟩]) w' := by
  obtain ⟨iA, hA1, hA2, hA3, hA4⟩ := info_parts Tryz.infoAc
  have HL := Lib.hid (deviceError_any 65540 (by decide) (by decide) 4 (by decide) w)
  rw [show devErr 65540 4 = 0 from rfl] at HL
  have HD := Lib.hid h
  have HTR := Lib.hid htr
  obtain ⟨c0, c1, c2, c3⟩ := h.bus.cells
  clear h htr v0 v1 hou
  go_enter Tryz.func137, Tryz.ntmps137
  go_wp2_with fail
  refine HL.out.mono ?_
  rintro e w1 ⟨rfl, rfl⟩
  go_wp2_with (at_builtin; refine wpList_append_own_at _ rfl (.tmp 53) (.tmp 58) 94 rfl B 236 iA (.agg #[.int .i64 0, .bool false, .int .u32 0, .int .u32 0]) 4 24 Tryz.underlying94 hA1 hA2 hA3 hA4 rfl (by decide) tv tr.length (tr.flatMap accG) rfl (((HD.out).below ((Below.refl _ _).alloc (Nat.le_refl _) _)).own) _ 1 1 [.int .i64 c, .bool true, .int .u32 65540, .int .u32 v] rfl rfl (four_newsG _ _ _ _ _ _) (by intro u hu; simp at hu; rcases hu with rfl | rfl | rfl | rfl <;> rfl) (by have := HTR.out; unfold maxLen; omega) (by have := HTR.out; omega) (by have := HD.out.le; simp; omega) ?_)
  intro v5 w5 hown5 hgr5 _ hv5
  obtain ⟨hB5, hT⟩ := traced_of HD.out (ac := ⟨c, true, 65540, v⟩) rfl hown5 hgr5 hv5
  obtain ⟨t5, k5, c5, rfl⟩ := owns_some hown5 (by omega)
  have HT := Lib.hid hT
  obtain ⟨c0, c1, c2, c3⟩ := hB5.cells
  have f3 : w5.frozen? ⟨b, 3, none⟩ = false := by simp [World.frozen?, hB5]
  clear hT hB5 hown5 hgr5 hv5
  go_wp2
  go_ret
  exact ⟨rfl, HT.out⟩
set_option maxHeartbeats 4000000 in
set_option maxRecDepth 100000 in
theorem busStore_65544 (h : BusD w B b r out lamp tv tr) (htr : tr.length ≤ 1000000) (hou : out.length ≤ 1000000) (v : Int) (v0 : 0 ≤ v) (v1 : v < 4294967296) (c : Int) :
    Calls Tryz.prog 137 #[.pointer (some ⟨b, 0, none⟩), .int .u32 65544, .int .i64 4, .int .u32 v, .int .i64 c] w fun e w' => e = .returned (.int .i64 0) ∧ Traced w B b r out v tv (tr ++ [⟨c, true, 65544, v⟩]) w' := by
  obtain ⟨iA, hA1, hA2, hA3, hA4⟩ := info_parts Tryz.infoAc
  have HL := Lib.hid (deviceError_any 65544 (by decide) (by decide) 4 (by decide) w)
  rw [show devErr 65544 4 = 0 from rfl] at HL
  have HD := Lib.hid h
  have HTR := Lib.hid htr
  obtain ⟨c0, c1, c2, c3⟩ := h.bus.cells
  clear h htr v0 v1 hou
  go_enter Tryz.func137, Tryz.ntmps137
  go_wp2_with fail
  refine HL.out.mono ?_
  rintro e w1 ⟨rfl, rfl⟩
  have f2 : w.frozen? ⟨b, 2, none⟩ = false := by simp [World.frozen?, HD.out.bus]
  have HD2 := Lib.hid (HD.out.setLamp v)
  have HK2 := Lib.hid (Kept.set w b 2 (.int .u32 v))
  have c3' : (w.setCell ⟨b, 2, none⟩ (.int .u32 v)).cell? ⟨b, 3, none⟩ = some tv := HD2.out.bus.cells.2.2.2
  go_upto_region 11 with fail
  clear c0 c1 c2 c3 f2
  generalize w.setCell ⟨b, 2, none⟩ (.int .u32 v) = w2 at *
  go_wp2_with (at_builtin; refine wpList_append_own_at _ rfl (.tmp 53) (.tmp 58) 94 rfl B 236 iA (.agg #[.int .i64 0, .bool false, .int .u32 0, .int .u32 0]) 4 24 Tryz.underlying94 hA1 hA2 hA3 hA4 rfl (by decide) tv tr.length (tr.flatMap accG) rfl (((HD2.out).below ((Below.refl _ _).alloc (Nat.le_refl _) _)).own) _ 1 1 [.int .i64 c, .bool true, .int .u32 65544, .int .u32 v] rfl rfl (four_newsG _ _ _ _ _ _) (by intro u hu; simp at hu; rcases hu with rfl | rfl | rfl | rfl <;> rfl) (by have := HTR.out; unfold maxLen; omega) (by have := HTR.out; omega) (by have := HD2.out.le; simp; omega) ?_)
  intro v5 w5 hown5 hgr5 _ hv5
  obtain ⟨hB5, hT⟩ := traced_of HD2.out (ac := ⟨c, true, 65544, v⟩) rfl hown5 hgr5 hv5
  obtain ⟨t5, k5, c5, rfl⟩ := owns_some hown5 (by omega)
  have HT := Lib.hid hT
  obtain ⟨c0, c1, c2, c3⟩ := hB5.cells
  have f3 : w5.frozen? ⟨b, 3, none⟩ = false := by simp [World.frozen?, hB5]
  clear hT hB5 hown5 hgr5 hv5
  go_wp2
  go_ret
  exact ⟨rfl, HT.out.behind HK2.out⟩
set_option maxHeartbeats 4000000 in
set_option maxRecDepth 100000 in
theorem busStore_65536 (h : BusD w B b r out lamp tv tr) (htr : tr.length ≤ 1000000) (hou : out.length ≤ 1000000) (v : Int) (v0 : 0 ≤ v) (v1 : v < 4294967296) (c : Int) :
    Calls Tryz.prog 137 #[.pointer (some ⟨b, 0, none⟩), .int .u32 65536, .int .i64 4, .int .u32 v, .int .i64 c] w fun e w' => e = .returned (.int .i64 0) ∧ Traced w B b r (out ++ [UInt8.ofNat (v.toNat % 256)]) lamp tv (tr ++ [⟨c, true, 65536, v⟩]) w' := by
  obtain ⟨iA, hA1, hA2, hA3, hA4⟩ := info_parts Tryz.infoAc
  have HL := Lib.hid (deviceError_any 65536 (by decide) (by decide) 4 (by decide) w)
  rw [show devErr 65536 4 = 0 from rfl] at HL
  have HD := Lib.hid h
  have HTR := Lib.hid htr
  obtain ⟨c0, c1, c2, c3⟩ := h.bus.cells
  have HOU := Lib.hid hou
  have HP := Lib.hid (fun wx => (part_lit v 0 8 1 256 rfl rfl v0 v1 (by decide) (by decide) wx))
  have hvm : v / 1 % 256 = ((v.toNat % 256 : Nat) : Int) := by omega
  rw [hvm] at HP
  have HBy := Lib.hid (fun wx => byte_any (v.toNat % 256) (Nat.mod_lt _ (by decide)) wx)
  have hsz : (bsl out).size ≤ 1000000 := by rw [bsl_size]; exact hou
  have HSZ := Lib.hid hsz
  clear hvm
  generalize ((v.toNat % 256 : Nat) : Int) = u at *
  generalize hby : bsl [UInt8.ofNat (v.toNat % 256)] = by1 at *
  clear h htr v0 v1 hou
  go_enter Tryz.func137, Tryz.ntmps137
  go_wp2_with fail
  refine HL.out.mono ?_
  rintro e w1 ⟨rfl, rfl⟩
  go_wp2_with fail
  have f1 : w.frozen? ⟨b, 1, none⟩ = false := by simp [World.frozen?, HD.out.bus]
  have hbl : b < w.heap.size := Nat.lt_of_lt_of_le HD.out.lt HD.out.le
  have HBL := Lib.hid hbl
  have hs1 : by1.size = 1 := by rw [← hby]; rfl
  have HBE := Lib.hid hby
  clear hby hbl c0 c2 c3
  have hcd : w.drew.cell? ⟨b, 1, none⟩ = some (.string (bsl out)) := c1
  have hfd : w.drew.frozen? ⟨b, 1, none⟩ = false := f1
  have HCD := Lib.hid hcd
  have HFD := Lib.hid hfd
  have HBD : Hid (b < w.drew.heap.size) := HBL
  have HDD := Lib.hid (HD.out.below (Below.refl _ w).drew)
  go_region_with (first | (go_at_call 100; refine (HP.out _).mono ?_; rintro e w' ⟨rfl, rfl⟩) | (go_at_call 153; refine (HBy.out _).mono ?_; rintro e w' ⟨rfl, hb9⟩; have k1 := (hb9.cell (p := ⟨b, 1, none⟩) HBD.out).trans HCD.out; have k2 := (hb9.frozen (p := ⟨b, 1, none⟩) HBD.out).trans HFD.out; have HK9 := Lib.hid hb9; clear hb9))
  all_goals (
    have hbe : bsl out ++ by1 = bsl (out ++ [UInt8.ofNat (v.toNat % 256)]) := by rw [← HBE.out]; exact bsl_app3 _ _
    rw [hbe]
    have HK2 := Lib.hid (((Kept.of_below (S := fun k => k = b) (Below.refl _ w).drew).trans (Kept.of_below HK9.out)).trans (Kept.set w' b 1 (.string (bsl (out ++ [UInt8.ofNat (v.toNat % 256)])))))
    have HD2 := Lib.hid ((HDD.out.below HK9.out).setOut (out ++ [UInt8.ofNat (v.toNat % 256)]))
    have c3' := HD2.out.bus.cells.2.2.2
    clear HD HDD HK9 k1 k2 c1 f1 hcd hfd HCD HFD HBD hbe
    generalize w'.setCell ⟨b, 1, none⟩ (.string (bsl (out ++ [UInt8.ofNat (v.toNat % 256)]))) = w2 at *
    generalize hoe : out ++ [UInt8.ofNat (v.toNat % 256)] = out2 at *
    have HOE := Lib.hid hoe
    clear hoe
    go_wp2_with (at_builtin; refine wpList_append_own_at _ rfl (.tmp 53) (.tmp 58) 94 rfl B 236 iA (.agg #[.int .i64 0, .bool false, .int .u32 0, .int .u32 0]) 4 24 Tryz.underlying94 hA1 hA2 hA3 hA4 rfl (by decide) tv tr.length (tr.flatMap accG) rfl (((HD2.out).below ((Below.refl _ _).alloc (Nat.le_refl _) _)).own) _ 1 1 [.int .i64 c, .bool true, .int .u32 65536, .int .u32 v] rfl rfl (four_newsG _ _ _ _ _ _) (by intro u hu; simp at hu; rcases hu with rfl | rfl | rfl | rfl <;> rfl) (by have := HTR.out; unfold maxLen; omega) (by have := HTR.out; omega) (by have := HD2.out.le; simp; omega) ?_)
    intro v5 w5 hown5 hgr5 _ hv5
    obtain ⟨hB5, hT⟩ := traced_of HD2.out (ac := ⟨c, true, 65536, v⟩) rfl hown5 hgr5 hv5
    obtain ⟨t5, k5, c5, rfl⟩ := owns_some hown5 (by omega)
    have HT := Lib.hid hT
    obtain ⟨c0, c1, c2, c3⟩ := hB5.cells
    have f3 : w5.frozen? ⟨b, 3, none⟩ = false := by simp [World.frozen?, hB5]
    clear hT hB5 hown5 hgr5 hv5
    go_wp2
    go_ret
    obtain rfl := HOE.out
    exact ⟨rfl, HT.out.behind HK2.out⟩)
end
end Go.Proofs.YtadoaldnjnkhgaaGreatDoor
namespace Go.Proofs.YtadoaldnjnkhgaaGreatDoor
open Go.RowKit
structure BusF where
  ws : List Int
  hit : Nat → Bool
  out : List UInt8
  lamp : Int
  tr : List AccN
def devLd (F : BusF) (a c : Int) : Int := if a = 65540 then c % 4294967296 else if a = 65544 then F.lamp else 0
def busL (F : BusF) (a : Int) (n : Nat) (sg : Bool) (c : Int) : Int × Nat × BusF :=
  if a < 16384 then (if reach a n = true then (wideZ (loadN F.ws a.toNat n) n sg, 0, F) else (0, reachErr a n, F))
  else if devErr a n = 0 then (devLd F a c, 0, { F with tr := F.tr ++ [⟨c, false, a, devLd F a c⟩] }) else (0, devErr a n, F)
def busS (wt : Nat → Bool) (F : BusF) (a : Int) (n : Nat) (v c : Int) : Nat × BusF :=
  if a < 16384 then (if reach a n = true then (0, { F with ws := storeN a.toNat n v n F.ws, hit := hitN wt F.hit (a.toNat / 256) }) else (reachErr a n, F))
  else if devErr a n = 0 then (0, { F with out := if a = 65536 then F.out ++ [UInt8.ofNat (v.toNat % 256)] else F.out, lamp := if a = 65544 then v else F.lamp, tr := F.tr ++ [⟨c, true, a, v⟩] }) else (devErr a n, F)
structure BM (w : World) (B b r bw ba bh : Nat) (tv : Value) (wt : Nat → Bool) (F : BusF) : Prop where
  bus : BusD w B b r F.out F.lamp tv F.tr
  ram : RamM w r bw ba bh F.ws wt F.hit
  lt : r < B ∧ bw < B ∧ ba < B ∧ bh < B
  ne : r ≠ b ∧ bw ≠ b ∧ ba ≠ b ∧ bh ≠ b
def BS (b bw bh : Nat) (tv : Value) : Nat → Prop := fun k => k = b ∨ tv.ownBlock = some k ∨ k = bw ∨ k = bh
def RowOn (w : World) (tv tv' : Value) : Prop := tv'.ownBlock = tv.ownBlock ∨ ∃ g, tv'.ownBlock = some g ∧ w.heap.size ≤ g
theorem RowOn.refl (w : World) (tv : Value) : RowOn w tv tv := .inl rfl
theorem RowOn.trans {w w' : World} {t1 t2 t3 : Value} (h : RowOn w t1 t2) (hs : w.heap.size ≤ w'.heap.size) (k : RowOn w' t2 t3) : RowOn w t1 t3 := by
  rcases k with e | ⟨g, e, hg⟩
  · rcases h with e2 | ⟨g, e2, hg⟩
    · exact .inl (e.trans e2)
    · exact .inr ⟨g, e.trans e2, hg⟩
  · exact .inr ⟨g, e, Nat.le_trans hs hg⟩
section
variable {w w' : World} {B b r bw ba bh : Nat} {tv : Value} {wt : Nat → Bool} {F : BusF}
theorem BM.own_lt (h : BM w B b r bw ba bh tv wt F) {k : Nat} (hk : k < B) : tv.ownBlock ≠ some k := fun e => by have := (h.bus.own.block e).1; omega
theorem BM.of_same (h : BM w B b r bw ba bh tv wt F) {S : Nat → Prop} (hk : Kept S w w') (hS : ∀ k, S k → k ≠ b ∧ k ≠ r ∧ k ≠ bw ∧ k ≠ ba ∧ k ≠ bh ∧ tv.ownBlock ≠ some k) : BM w' B b r bw ba bh tv wt F where
  bus := h.bus.of_blocks (hk.same b (Nat.lt_of_lt_of_le h.bus.lt h.bus.le) (fun s => (hS b s).1 rfl)) (fun g hg => hk.same g (h.bus.own.block hg).2 (fun s => (hS g s).2.2.2.2.2 hg)) hk.below.size
  ram := h.ram.kept hk (fun s => (hS r s).2.1 rfl) (fun s => (hS bw s).2.2.1 rfl) (fun s => (hS ba s).2.2.2.1 rfl) (fun s => (hS bh s).2.2.2.2.1 rfl)
  lt := h.lt
  ne := h.ne
theorem BM.below (h : BM w B b r bw ba bh tv wt F) (hb : Below w.heap.size w w') : BM w' B b r bw ba bh tv wt F :=
  h.of_same (S := fun _ => False) (Kept.of_below hb) (fun k s => s.elim)
theorem BM.traced {out : List UInt8} {lamp : Int} {tr : List AccN} (h : BM w B b r bw ba bh tv wt F) (ht : Traced w B b r out lamp tv tr w') :
    ∃ tv', BM w' B b r bw ba bh tv' wt { F with out := out, lamp := lamp, tr := tr } ∧ Kept (BS b bw bh tv) w w' ∧ RowOn w tv tv' := by
  obtain ⟨tv', h1, h2, h3⟩ := ht
  refine ⟨tv', ⟨h1, h.ram.kept h2 ?_ ?_ ?_ ?_, h.lt, h.ne⟩, h2.mono (fun k e => by rcases e with e | e; exact .inl e; exact .inr (.inl e)), h3⟩
  · rintro (e | e); exact h.ne.1 e; exact h.own_lt h.lt.1 e
  · rintro (e | e); exact h.ne.2.1 e; exact h.own_lt h.lt.2.1 e
  · rintro (e | e); exact h.ne.2.2.1 e; exact h.own_lt h.lt.2.2.1 e
  · rintro (e | e); exact h.ne.2.2.2 e; exact h.own_lt h.lt.2.2.2 e
theorem dev_addr {a : Int} {n : Nat} (h : devErr a n = 0) (h0 : 16384 ≤ a) (hn : n = 1 ∨ n = 2 ∨ n = 4) : n = 4 ∧ (a = 65536 ∨ a = 65540 ∨ a = 65544 ∨ a = 65548) := by
  by_cases e : a % (n : Int) = 0
  · have hr : reachErr a n = 10 := by unfold reachErr; rw [if_neg (fun h => h e), if_pos h0]
    unfold devErr at h
    rw [hr, if_neg (fun h => h rfl)] at h
    by_cases h2 : n = 4 ∧ 65536 ≤ a ∧ a ≤ 65548
    · obtain ⟨rfl, h3, h4⟩ := h2
      exact ⟨rfl, by omega⟩
    · rw [if_neg h2] at h
      exact absurd h (by decide)
  · have hr : reachErr a n = 9 := by unfold reachErr; rw [if_pos e]
    unfold devErr at h
    rw [hr, if_pos (by decide)] at h
    exact absurd h (by decide)
def BusTo (w : World) (B b r bw ba bh : Nat) (tv : Value) (wt : Nat → Bool) (F : BusF) (w' : World) : Prop := ∃ tv', BM w' B b r bw ba bh tv' wt F ∧ Kept (BS b bw bh tv) w w' ∧ RowOn w tv tv'
theorem BusTo.same (h : BM w B b r bw ba bh tv wt F) : BusTo w B b r bw ba bh tv wt F w := ⟨tv, h, Kept.refl _ _, .inl rfl⟩
theorem busLoad_all (h : BM w B b r bw ba bh tv wt F) (htr : F.tr.length ≤ 1000000) (a : Int) (a0 : 0 ≤ a) (a1 : a < 4294967296) (n : Nat) (hn : n = 1 ∨ n = 2 ∨ n = 4) (s : Bool) (hs : n = 4 → s = false) (c : Int) (hc0 : 0 ≤ c) (hc1 : c ≤ 4611686018427387903) :
    Calls Tryz.prog 136 #[.pointer (some ⟨b, 0, none⟩), .int .u32 a, .int .i64 (n : Int), .bool s, .int .i64 c] w fun e w' => e = .returned (.tuple #[.int .u32 (busL F a n s c).1, .int .i64 ((busL F a n s c).2.1 : Int)]) ∧ BusTo w B b r bw ba bh tv wt (busL F a n s c).2.2 w' := by
  by_cases hm : a < 16384
  · by_cases hr : reach a n = true
    · have e : busL F a n s c = (wideZ (loadN F.ws a.toNat n) n s, 0, F) := by unfold busL; rw [if_pos hm, if_pos hr]
      rw [e]
      obtain ⟨k, rfl⟩ := Int.eq_ofNat_of_zero_le a0
      refine (busLoad_yes h.bus.bus h.ram k n hn s hs hr c).mono ?_
      rintro e w1 ⟨rfl, rfl⟩
      exact ⟨rfl, BusTo.same h⟩
    · have e : busL F a n s c = (0, reachErr a n, F) := by unfold busL; rw [if_pos hm, if_neg hr]
      rw [e]
      refine (busLoad_no h.bus.bus h.ram a a0 hm n hn s hr c).mono ?_
      rintro e w1 ⟨rfl, rfl⟩
      exact ⟨rfl, BusTo.same h⟩
  · by_cases hd : devErr a n = 0
    · have e : busL F a n s c = (devLd F a c, 0, { F with tr := F.tr ++ [⟨c, false, a, devLd F a c⟩] }) := by unfold busL; rw [if_neg hm, if_pos hd]
      rw [e]
      obtain ⟨rfl, ha⟩ := dev_addr hd (by omega) hn
      rcases ha with rfl | rfl | rfl | rfl
      · refine (busLoad_65536 h.bus htr s c hc0 hc1).mono ?_
        rintro e w1 ⟨rfl, ht⟩
        exact ⟨rfl, h.traced ht⟩
      · refine (busLoad_65540 h.bus htr s c hc0 hc1).mono ?_
        rintro e w1 ⟨rfl, ht⟩
        exact ⟨rfl, h.traced ht⟩
      · refine (busLoad_65544 h.bus htr s c hc0 hc1).mono ?_
        rintro e w1 ⟨rfl, ht⟩
        exact ⟨rfl, h.traced ht⟩
      · refine (busLoad_65548 h.bus htr s c hc0 hc1).mono ?_
        rintro e w1 ⟨rfl, ht⟩
        exact ⟨rfl, h.traced ht⟩
    · have e : busL F a n s c = (0, devErr a n, F) := by unfold busL; rw [if_neg hm, if_neg hd]
      rw [e]
      refine (busLoad_off a (by omega) a1 n hn s (by omega) c).mono ?_
      rintro e w1 ⟨rfl, rfl⟩
      exact ⟨rfl, BusTo.same h⟩
theorem busStore_all (h : BM w B b r bw ba bh tv wt F) (htr : F.tr.length ≤ 1000000) (hou : F.out.length ≤ 1000000) (a : Int) (a0 : 0 ≤ a) (a1 : a < 4294967296) (n : Nat) (hn : n = 1 ∨ n = 2 ∨ n = 4) (v : Int) (v0 : 0 ≤ v) (v1 : v < 4294967296) (c : Int) :
    Calls Tryz.prog 137 #[.pointer (some ⟨b, 0, none⟩), .int .u32 a, .int .i64 (n : Int), .int .u32 v, .int .i64 c] w fun e w' => e = .returned (.int .i64 ((busS wt F a n v c).1 : Int)) ∧ BusTo w B b r bw ba bh tv wt (busS wt F a n v c).2 w' := by
  by_cases hm : a < 16384
  · by_cases hr : reach a n = true
    · have e : busS wt F a n v c = (0, { F with ws := storeN a.toNat n v n F.ws, hit := hitN wt F.hit (a.toNat / 256) }) := by unfold busS; rw [if_pos hm, if_pos hr]
      rw [e]
      obtain ⟨k, rfl⟩ := Int.eq_ofNat_of_zero_le a0
      refine (busStore_yes h.bus.bus h.ram k n hn v v0 v1 hr c).mono ?_
      rintro e w1 ⟨rfl, hR, hK⟩
      refine ⟨rfl, tv, ⟨h.bus.of_blocks (hK.same b (Nat.lt_of_lt_of_le h.bus.lt h.bus.le) ?_) (fun g hg => hK.same g (h.bus.own.block hg).2 ?_) hK.below.size, hR, h.lt, h.ne⟩, hK.mono (fun k e => ?_), .inl rfl⟩
      · rintro (e | e); exact h.ne.2.1 e.symm; exact h.ne.2.2.2 e.symm
      · rintro (e | e); exact h.own_lt h.lt.2.1 (e ▸ hg); exact h.own_lt h.lt.2.2.2 (e ▸ hg)
      · rcases e with e | e; exact .inr (.inr (.inl e)); exact .inr (.inr (.inr e))
    · have e : busS wt F a n v c = (reachErr a n, F) := by unfold busS; rw [if_pos hm, if_neg hr]
      rw [e]
      refine (busStore_no h.bus.bus a a0 hm n hn v hr c).mono ?_
      rintro e w1 ⟨rfl, rfl⟩
      exact ⟨rfl, BusTo.same h⟩
  · by_cases hd : devErr a n = 0
    · have e : busS wt F a n v c = (0, { F with out := if a = 65536 then F.out ++ [UInt8.ofNat (v.toNat % 256)] else F.out, lamp := if a = 65544 then v else F.lamp, tr := F.tr ++ [⟨c, true, a, v⟩] }) := by unfold busS; rw [if_neg hm, if_pos hd]
      rw [e]
      obtain ⟨rfl, ha⟩ := dev_addr hd (by omega) hn
      rcases ha with rfl | rfl | rfl | rfl
      · refine (busStore_65536 h.bus htr hou v v0 v1 c).mono ?_
        rintro e w1 ⟨rfl, ht⟩
        exact ⟨rfl, h.traced ht⟩
      · refine (busStore_65540 h.bus htr hou v v0 v1 c).mono ?_
        rintro e w1 ⟨rfl, ht⟩
        exact ⟨rfl, h.traced ht⟩
      · refine (busStore_65544 h.bus htr hou v v0 v1 c).mono ?_
        rintro e w1 ⟨rfl, ht⟩
        exact ⟨rfl, h.traced ht⟩
      · refine (busStore_65548 h.bus htr hou v v0 v1 c).mono ?_
        rintro e w1 ⟨rfl, ht⟩
        exact ⟨rfl, h.traced ht⟩
    · have e : busS wt F a n v c = (devErr a n, F) := by unfold busS; rw [if_neg hm, if_neg hd]
      rw [e]
      refine (busStore_off a (by omega) a1 n hn v (by omega) c).mono ?_
      rintro e w1 ⟨rfl, rfl⟩
      exact ⟨rfl, BusTo.same h⟩
end
end Go.Proofs.YtadoaldnjnkhgaaGreatDoor
namespace Go.Proofs.YtadoaldnjnkhgaaGreatDoor
open Go.RowKit
structure CM (w : World) (B sb b r bw ba bh : Nat) (tv : Value) (wt : Nat → Bool) (s : StF) (F : BusF) : Prop where
  st : StB w sb s
  bm : BM w B b r bw ba bh tv wt F
  lt : sb < B
  ne : sb ≠ b ∧ sb ≠ r ∧ sb ≠ bw ∧ sb ≠ ba ∧ sb ≠ bh
def CS (sb b bw bh : Nat) (tv : Value) : Nat → Prop := fun k => k = sb ∨ BS b bw bh tv k
def StepTo (w : World) (B sb b r bw ba bh : Nat) (tv : Value) (wt : Nat → Bool) (s : StF) (F : BusF) (w' : World) : Prop := ∃ tv', CM w' B sb b r bw ba bh tv' wt s F ∧ Kept (CS sb b bw bh tv) w w' ∧ RowOn w tv tv'
section
variable {w w' : World} {B sb b r bw ba bh : Nat} {tv : Value} {wt : Nat → Bool} {s : StF} {F : BusF}
theorem CM.state (h : CM w B sb b r bw ba bh tv wt s F) {s' : StF} (hs : StB w' sb s') (hk : Kept (fun k => k = sb) w w') : CM w' B sb b r bw ba bh tv wt s' F :=
  ⟨hs, h.bm.of_same hk (fun k e => by subst e; exact ⟨h.ne.1, h.ne.2.1, h.ne.2.2.1, h.ne.2.2.2.1, h.ne.2.2.2.2, h.bm.own_lt h.lt⟩), h.lt, h.ne⟩
theorem CM.not_bs (h : CM w B sb b r bw ba bh tv wt s F) : ¬ BS b bw bh tv sb := by
  rintro (e | e | e | e)
  · exact h.ne.1 e
  · exact h.bm.own_lt h.lt e
  · exact h.ne.2.2.1 e
  · exact h.ne.2.2.2.2 e
theorem CM.new_bs (h : CM w B sb b r bw ba bh tv wt s F) {k : Nat} (hk : w.heap.size ≤ k) : ¬ CS sb b bw bh tv k := by
  have hB := h.bm.bus.le
  rintro (e | e | e | e | e)
  · have := h.lt; omega
  · have := h.bm.bus.lt; omega
  · have := (h.bm.bus.own.block e).2; omega
  · have := h.bm.lt.2.1; omega
  · have := h.bm.lt.2.2.2; omega
theorem CM.below (h : CM w B sb b r bw ba bh tv wt s F) (hb : Below w.heap.size w w') : CM w' B sb b r bw ba bh tv wt s F :=
  ⟨h.st.of_block (hb.block sb h.st.lt), h.bm.below hb, h.lt, h.ne⟩
theorem CM.busTo (h : CM w B sb b r bw ba bh tv wt s F) {F' : BusF} (ht : BusTo w B b r bw ba bh tv wt F' w') : StepTo w B sb b r bw ba bh tv wt s F' w' := by
  obtain ⟨tv', h1, h2, h3⟩ := ht
  exact ⟨tv', ⟨Row.kept h.st h2 h.not_bs, h1, h.lt, h.ne⟩, h2.mono (fun k e => .inr e), h3⟩
theorem CS.next {tv' : Value} (hk : RowOn w tv tv') {S : Nat → Prop} {k : Nat} (hlt : k < w.heap.size) (h : CS sb b bw bh tv' k) : CS sb b bw bh tv k := by
  rcases h with e | e | e | e | e
  · exact .inl e
  · exact .inr (.inl e)
  · rcases hk with e2 | ⟨g, e2, hg⟩
    · exact .inr (.inr (.inl (e2 ▸ e)))
    · rw [e2] at e; cases e; omega
  · exact .inr (.inr (.inr (.inl e)))
  · exact .inr (.inr (.inr (.inr e)))
theorem Kept.behind {S T : Nat → Prop} {a b' c : World} (h : Kept S a b') (k : Kept T b' c) (hs : ∀ i, i < a.heap.size → T i → S i) : Kept S a c :=
  ⟨h.below.trans k.below, fun i hi hn => (k.same i (Nat.lt_of_lt_of_le hi h.below.size) (fun ht => hn (hs i hi ht))).trans (h.same i hi hn)⟩
theorem StepTo.then_state {F' : BusF} {s' s2 : StF} {w2 : World} (h : StepTo w B sb b r bw ba bh tv wt s' F' w') (hs : ∀ tv', CM w' B sb b r bw ba bh tv' wt s' F' → StB w2 sb s2) (hk : Kept (fun k => k = sb) w' w2) : StepTo w B sb b r bw ba bh tv wt s2 F' w2 := by
  obtain ⟨tv', h1, h2, h3⟩ := h
  exact ⟨tv', h1.state (hs tv' h1) hk, h2.behind hk (fun k hk e => .inl e), h3⟩
theorem StepTo.behind {s' : StF} {F' : BusF} {w2 : World} (hb : Below w.heap.size w w') (hsz : w.heap.size ≤ w'.heap.size) (h : StepTo w' B sb b r bw ba bh tv wt s' F' w2) : StepTo w B sb b r bw ba bh tv wt s' F' w2 := by
  obtain ⟨tv', h1, h2, h3⟩ := h
  refine ⟨tv', h1, (Kept.of_below (S := CS sb b bw bh tv) hb).trans h2, ?_⟩
  rcases h3 with e | ⟨g, e, hg⟩
  · exact .inl e
  · exact .inr ⟨g, e, by omega⟩
theorem StepTo.trans {s1 s2 : StF} {F1 F2 : BusF} {w1 w2 : World} (h : StepTo w B sb b r bw ba bh tv wt s1 F1 w1) (k : ∀ tv', CM w1 B sb b r bw ba bh tv' wt s1 F1 → StepTo w1 B sb b r bw ba bh tv' wt s2 F2 w2) : StepTo w B sb b r bw ba bh tv wt s2 F2 w2 := by
  obtain ⟨tv1, h1, h2, h3⟩ := h
  obtain ⟨tv2, k1, k2, k3⟩ := k tv1 h1
  exact ⟨tv2, k1, h2.behind k2 (fun i hi e => CS.next (S := fun _ => True) h3 hi e), h3.trans h2.below.size k3⟩
end
theorem StB.setBad {w : World} {sb : Nat} {s : StF} (h : StB w sb s) (v : Int) : StB (w.setCell ⟨sb, 40, none⟩ (.int .u32 v)) sb { s with bad := v } :=
  (Row.set h 40 (.int .u32 v)).eqv (fun j hj => by
    by_cases e : j = 40
    · subst e; rfl
    · rw [if_neg e]
      unfold stG
      split
      · rfl
      · split <;> first | rfl | exact absurd rfl e)
def memOp (o : Nat) : Prop := o = 46 ∨ o = 47 ∨ o = 48 ∨ o = 49 ∨ o = 50
def stoOp (o : Nat) : Prop := o = 51 ∨ o = 52 ∨ o = 53
theorem sizeOf_any {o : Nat} (h : memOp o ∨ stoOp o) (w : World) : Calls Tryz.prog 135 #[.int .i64 (o : Int)] w fun e w' => e = .returned (.int .i64 (sizeS o)) ∧ w = w' := by
  rcases h with (rfl | rfl | rfl | rfl | rfl) | rfl | rfl | rfl
  · exact sizeOf_46 w
  · exact sizeOf_47 w
  · exact sizeOf_48 w
  · exact sizeOf_49 w
  · exact sizeOf_50 w
  · exact sizeOf_51 w
  · exact sizeOf_52 w
  · exact sizeOf_53 w
theorem sizeS_range {o : Nat} (h : memOp o ∨ stoOp o) : -4 ≤ sizeS o ∧ sizeS o ≤ 4 := by
  rcases h with (rfl | rfl | rfl | rfl | rfl) | rfl | rfl | rfl <;> decide
theorem sizeN_of {o : Nat} (h : memOp o ∨ stoOp o) : ((sizeN o : Nat) : Int) = (if sizeS o < 0 then -sizeS o else sizeS o) ∧ (sizeN o = 1 ∨ sizeN o = 2 ∨ sizeN o = 4) ∧ (sizeN o = 4 → decide (sizeS o < 0) = false) := by
  rcases h with (rfl | rfl | rfl | rfl | rfl) | rfl | rfl | rfl <;> decide
def ldF (s : StF) (F : BusF) (o S : Nat) (m : Int) : Int × Nat × BusF := busL F ((s.r S + wideS m) % 4294967296) (sizeN o) (decide (sizeS o < 0)) s.count
def stoF (wt : Nat → Bool) (s : StF) (F : BusF) (o S T : Nat) (m : Int) : Nat × BusF := busS wt F ((s.r S + wideS m) % 4294967296) (sizeN o) (s.r T) s.count
end Go.Proofs.YtadoaldnjnkhgaaGreatDoor
namespace Go.Proofs.YtadoaldnjnkhgaaGreatDoor
open Go.RowKit
theorem kindOf_at (k : Nat) (h1 : 1 ≤ k) (hk : k < 54) (w : World) :
    Calls Tryz.prog 24 #[.int .i64 (k : Int)] w fun e w' => e = .returned (.string (bsl (kindB k))) ∧ Below w.heap.size w w' := by
  have ha : ((k : Int) == 0) = false := beq_eq_false_iff_ne.2 (by omega)
  have hfd : ∀ w, (Instr.field 123 (rowV k) 5).run Tryz.prog w = .ok (.string (bsl (kindB k))) w := fun _ => by kernel_rfl
  go_enter Tryz.func24, Tryz.ntmps24
  go_wp2_with (go_at_call 50; (with_reducible refine (rowOf_at k h1 hk _).mono ?_); rintro e w1 ⟨rfl, hb⟩)
  go_returns
  exact ⟨rfl, hb⟩
theorem kindOf_zero (w : World) :
    Calls Tryz.prog 24 #[.int .i64 0] w fun e w' => e = .returned (.string (bsl [116, 114, 97, 112])) ∧ Below w.heap.size w w' := by
  go_enter Tryz.func24, Tryz.ntmps24
  go_wp2_with fail
  go_returns
  exact ⟨rfl, Below.refl _ _⟩
theorem kindOf_none (op : Int) (h : op < 0 ∨ 54 ≤ op) (w : World) :
    Calls Tryz.prog 24 #[.int .i64 op] w fun e w' => e = .returned (.string ⟨#[]⟩) ∧ Below w.heap.size w w' := by
  have ha : (op == 0) = false := beq_eq_false_iff_ne.2 (by omega)
  have hfd : ∀ w, (Instr.field 123 rowNone 5).run Tryz.prog w = .ok (.string ⟨#[]⟩) w := fun _ => by kernel_rfl
  have HH : Hid (op < 1 ∨ 54 ≤ op) := by unfold Hid; omega
  clear h
  go_enter Tryz.func24, Tryz.ntmps24
  go_wp2_with (go_at_call 50; (with_reducible refine (rowOf_none op HH.out _).mono ?_); rintro e w1 ⟨rfl, hb⟩)
  go_returns
  exact ⟨rfl, hb⟩
end Go.Proofs.YtadoaldnjnkhgaaGreatDoor
