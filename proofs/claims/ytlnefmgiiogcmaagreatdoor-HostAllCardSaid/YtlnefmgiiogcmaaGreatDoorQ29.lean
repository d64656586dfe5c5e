/- The walk of plan's lay. Conditions: as each theorem states. -/
import Derived.Test.YtlnefmgiiogcmaaGreatDoorQ28
import Derived.Deep.RegionHeldLaw
set_option linter.unusedVariables false
set_option linter.unusedSimpArgs false
namespace Go.Proofs.YtlnefmgiiogcmaaGreatDoor
open Go.RowKit
def rows1 (rows : List (List OpN)) (k : Nat) : List (List OpN) := if k < rows.length then rows else rows ++ [[]]
theorem putRow_is {rows : List (List OpN)} {k : Nat} (hk : k ≤ rows.length) (o : OpN) (h1 : k < (rows1 rows k).length) : putRow rows k o = (rows1 rows k).set k ((rows1 rows k)[k] ++ [o]) := by
  unfold putRow
  by_cases h : k < rows.length
  · have e : rows1 rows k = rows := if_pos h
    rw [if_pos h]
    simp only [e]
    rw [List.getD_eq_getElem?_getD, List.getElem?_eq_getElem h]
    rfl
  · have e : rows1 rows k = rows ++ [[]] := if_neg h
    have e2 : k = rows.length := by omega
    rw [if_neg h]
    subst e2
    simp only [e, Nat.sub_self, List.replicate_zero, List.append_nil]
    rw [List.getElem_append_right (Nat.le_refl _), List.set_append_right _ _ (Nat.le_refl _)]
    simp
theorem rows1_len {rows : List (List OpN)} {k : Nat} (hk : k ≤ rows.length) : k < (rows1 rows k).length := by
  unfold rows1
  split
  · assumption
  · rw [List.length_append]
    simp
    omega
theorem findFit_step (rows : List (List OpN)) (o : OpN) (n k : Nat) : findFit rows o (n + 1) k = if fitsM rows k o = true then k else findFit rows o n (k + 1) := rfl
def readU (f : Nat → Option Nat) (k : Nat) (l : List Nat) : Nat → Option Nat := fun r => if r ∈ l then some (match f r with | some q => max q k | none => k) else f r
theorem readU_snoc (f : Nat → Option Nat) (k : Nat) (l : List Nat) (r : Nat) : (fun x => if x = r then some (max (natD (readU f k l r)) k) else readU f k l x) = readU f k (l ++ [r]) := by
  funext x
  unfold readU
  by_cases e : x = r
  · subst e
    rw [if_pos rfl, if_pos (List.mem_append.2 (Or.inr (List.mem_singleton.2 rfl)))]
    by_cases e2 : x ∈ l
    · rw [if_pos e2]
      cases f x <;> simp [natD]
    · rw [if_neg e2]
      cases f x <;> simp [natD]
  · rw [if_neg e]
    by_cases e2 : x ∈ l
    · rw [if_pos e2, if_pos (List.mem_append.2 (Or.inl e2))]
    · rw [if_neg e2, if_neg (fun h => by
        rcases List.mem_append.1 h with h | h
        · exact e2 h
        · exact e (List.mem_singleton.1 h))]
def LayP (w : World) (B mb bw br N : Nat) (m : Mk) (e : Ending) (w' : World) : Prop := e = .returned (.tuple #[]) ∧ (∃ rv vs, MkW w' B mb m rv vs bw br N) ∧ Below B w w'
theorem LayP.done {w w' : World} {B mb bw br N : Nat} {m m' : Mk} {rv : Value} {vs : List Value} (h : MkW w' B mb m' rv vs bw br N) (e : m = m') (hb : Below B w w') : LayP w B mb bw br N m (.returned (.tuple #[])) w' := ⟨rfl, ⟨rv, vs, e ▸ h⟩, hb⟩
theorem Tryz.infoRow : (Tryz.prog.info? 32).map (fun i => (i.zero, i.size, i.bytes)) = some (some (.slice none 0 0), 1, 24) := by kernel_rfl
theorem one_news (w : World) (a : Value) (t : TypeId) : ∀ j v, [a][j]? = some v → (w.alloc (.cells #[a] t)).cell? ((⟨w.heap.size, 0, none⟩ : Addr).add j) = some v := by
  intro j u hj
  match j, hj with
  | 0, hj => simp at hj; subst hj; simp [Addr.add]
  | j + 1, hj => simp at hj
theorem rv_form {w : World} {B mb bw br N : Nat} {mk : Mk} {rv : Value} {vs : List Value} (h : MkW w B mb mk rv vs bw br N) : ∃ a c, rv = .slice a mk.rows.length c := by
  rcases Joins.ownsRow_forms h.rows with ⟨h1, h2⟩ | ⟨g, cap, hv⟩
  · exact ⟨none, 0, by rw [h1, ← h.len, h2]⟩
  · exact ⟨_, cap, by rw [hv, h.len]⟩
structure LayS (w wr : World) (B mb bw br N : Nat) (mk : Mk) (rv : Value) (vs : List Value) (bx : Array Value) : Prop where
  mk' : MkW wr B mb mk rv vs bw br N
  box : wr.heap[w.heap.size]? = some (.cells bx 61 (0, 0))
  bel : Below B w wr
theorem LayS.below {w wr w' : World} {B mb bw br N : Nat} {mk : Mk} {rv : Value} {vs : List Value} {bx : Array Value} (h : LayS w wr B mb bw br N mk rv vs bx) (hB : B ≤ w.heap.size) (hb : Below wr.heap.size wr w') : LayS w w' B mb bw br N mk rv vs bx where
  mk' := h.mk'.below hb
  box := (hb.block _ (Array.getElem?_eq_some_iff.1 h.box).1).trans h.box
  bel := h.bel.trans (hb.mono (Nat.le_trans hB h.bel.size))
def lenW (v : Value) : Nat := match v with | .slice _ n _ => n | _ => 0
theorem own_base {w : World} {B : Nat} {e : TypeId} {sz : Nat} {v : Value} {m : Nat} {xs : List Value} (ho : w.ownsRow B e sz v m xs) {g : Nat} (hg : v.ownBlock = some g) : B ≤ g := by
  obtain ⟨hl, h' | ⟨g2, cap, cur, hv, hb, hh, _⟩⟩ := ho
  · rw [h'.1] at hg
    cases hg
  · rw [hv] at hg
    simp only [Value.ownBlock, Option.some.injEq] at hg
    subst hg
    exact hb
section
variable {w wr : World} {B mb bw br N : Nat} {mk : Mk} {rv : Value} {vs : List Value} {bx : Array Value}
theorem LayS.ne (h : LayS w wr B mb bw br N mk rv vs bx) : w.heap.size ≠ mb := by
  intro e
  have h1 := h.box
  rw [e, h.mk'.blk] at h1
  simp only [Option.some.injEq, Obj.cells.injEq] at h1
  exact absurd h1.2.1 (by decide)
theorem LayS.grow (h : LayS w wr B mb bw br N mk rv vs bx) (hB : B ≤ w.heap.size) {w5 : World} {rv' : Value} (hown : w5.ownsRow B 32 1 rv' (vs.length + 1) (vs ++ [.slice none 0 0])) (hg : wr.grownBy w5 rv.ownBlock) :
    LayS w (w5.setCell ⟨mb, 0, none⟩ rv') B mb bw br N (setB mk (mk.rows ++ [[]])) rv' (vs ++ [.slice none 0 0]) bx where
  mk' := h.mk'.grow hown hg
  box := (setCell_other w5 mb 0 _ rv' h.ne).trans ((hg.block _ (Array.getElem?_eq_some_iff.1 h.box).1 (own_ne h.mk'.rows h.box (by decide))).trans h.box)
  bel := (h.bel.grown hg (Nat.le_trans hB h.bel.size) (fun k hk => own_base h.mk'.rows hk)).setCell h.mk'.new.1 _
theorem LayS.put {w6 : World} {gr capr k g cap : Nat} {o : OpN} (h : LayS w wr B mb bw br N mk rv vs bx) (hB : B ≤ w.heap.size) (hrv : rv = .slice (some ⟨gr, 0, none⟩) vs.length capr) (hk : k < vs.length) (hk2 : k < mk.rows.length)
    (hown : w6.ownsRow B 61 6 (.slice (some ⟨g, 0, none⟩) (mk.rows[k].length + 1) cap) (mk.rows[k].length + 1) (mk.rows[k].flatMap opC ++ opC o)) (hg : wr.grownBy w6 vs[k].ownBlock) (hat : vs[k].ownBlock = some g ∨ wr.heap.size ≤ g)
    (hbx : vs[k].ownBlock ≠ some w.heap.size) :
    LayS w (w6.setCell ⟨gr, k, none⟩ (.slice (some ⟨g, 0, none⟩) (mk.rows[k].length + 1) cap)) B mb bw br N (setB mk (mk.rows.set k (mk.rows[k] ++ [o]))) rv (vs.set k (.slice (some ⟨g, 0, none⟩) (mk.rows[k].length + 1) cap)) bx where
  mk' := h.mk'.put hrv hk hk2 hown hg hat
  box := by
    have hne : w.heap.size ≠ gr := fun e => own_ne h.mk'.rows h.box (by decide) (by rw [hrv, e]; rfl)
    exact (setCell_other w6 gr k _ _ hne).trans ((hg.block _ (Array.getElem?_eq_some_iff.1 h.box).1 (fun e => hbx e.symm)).trans h.box)
  bel := (h.bel.grown hg (Nat.le_trans hB h.bel.size) (fun k' hk' => own_base (h.mk'.row k hk hk2) hk')).setCell (own_base h.mk'.rows (by rw [hrv]; rfl)) _
end
theorem lay_rest {w wr w6 : World} {B mb bw br N gr capr k g cap : Nat} {mk : Mk} {rv : Value} {vs : List Value} {bx : Array Value} {o : OpN} {X : Obj} (h : LayS w wr B mb bw br N mk rv vs bx) (hB : B ≤ w.heap.size) (hrv : rv = .slice (some ⟨gr, 0, none⟩) vs.length capr) (hk : k < vs.length) (hk2 : k < mk.rows.length)
    (hold : ∀ v ∈ vs, ∀ g, v.ownBlock = some g → g < w.heap.size)
    (hown : w6.ownsRow B 61 6 (.slice (some ⟨g, 0, none⟩) (mk.rows[k].length + 1) cap) (mk.rows[k].length + 1) (mk.rows[k].flatMap opC ++ opC o)) (hg : (wr.alloc X).grownBy w6 vs[k].ownBlock) (hat : vs[k].ownBlock = some g ∨ g = (wr.alloc X).heap.size) :
    LayS w (w6.setCell ⟨gr, k, none⟩ (.slice (some ⟨g, 0, none⟩) (mk.rows[k].length + 1) cap)) B mb bw br N (setB mk (mk.rows.set k (mk.rows[k] ++ [o]))) rv (vs.set k (.slice (some ⟨g, 0, none⟩) (mk.rows[k].length + 1) cap)) bx ∧ w6.cell? ⟨gr, k, none⟩ = some vs[k] ∧ w6.frozen? ⟨gr, k, none⟩ = false ∧ w6.heap[mb]? = wr.heap[mb]? ∧ w6.heap[w.heap.size]? = wr.heap[w.heap.size]? := by
  have hg2 := (World.grownBy_alloc wr X _).trans hg
  have hrb : rv.ownBlock = some gr := by rw [hrv]; rfl
  have hgr6 : w6.heap[gr]? = wr.heap[gr]? := hg2.block gr (own_lt h.mk'.rows hrb) (own_apart h.mk'.rows (h.mk'.row k hk hk2) (by decide) hrb)
  have hmb6 : w6.heap[mb]? = wr.heap[mb]? := hg2.block mb h.mk'.lt (h.mk'.mb_row hk)
  have hc := h.mk'.rows.cells hrb k vs[k] (List.getElem?_eq_getElem hk)
  rw [addr_add] at hc
  refine ⟨h.put hB hrv hk hk2 hown hg2 ?_ ?_, (World.cell?_of_block (a := ⟨gr, k, none⟩) hgr6).trans hc, ?_, hmb6, hg2.block _ (Array.getElem?_eq_some_iff.1 h.box).1 (fun e => Nat.lt_irrefl _ (hold _ (List.getElem_mem hk) _ e.symm))⟩
  · rcases hat with ha | ha
    · exact Or.inl ha
    · exact Or.inr (by rw [ha]; simp)
  · intro e
    exact Nat.lt_irrefl _ (hold _ (List.getElem_mem hk) _ e)
  · obtain ⟨_, h' | ⟨g0, cap0, cur, hv0, _, hh0, _⟩⟩ := id h.mk'.rows
    · rw [hrv] at h'
      cases h'.1
    · have e : gr = g0 := by
        rw [hrv] at hv0
        simp only [Value.slice.injEq, Option.some.injEq, Addr.mk.injEq] at hv0
        exact hv0.1.1
      subst e
      rw [World.frozen?_of_block (a := ⟨gr, k, none⟩) hgr6]
      simp [World.frozen?, hh0]
theorem LayS.field {w wr : World} {B mb bw br N i : Nat} {mk : Mk} {rv v : Value} {vs : List Value} {bx : Array Value} (h : LayS w wr B mb bw br N mk rv vs bx) (mk' : Mk) (hr : mk'.rows = mk.rows) (hw : mk'.write = mk.write) (hd : mk'.read = mk.read)
    (hblk : (wr.setCell ⟨mb, i, none⟩ v).heap[mb]? = some (.cells #[rv, .map (some bw), .map (some br), .int .i64 ((mk'.stN : Int) - 1), .int .i64 ((mk'.ldN : Int) - 1), .int .i64 (mk'.leave : Int), .int .i64 (mk'.first : Int)] 79 (0, 0))) : LayS w (wr.setCell ⟨mb, i, none⟩ v) B mb bw br N mk' rv vs bx where
  mk' := h.mk'.field mk' hr hw hd (fun k hk => setCell_other wr mb i k v hk) hblk
  box := (setCell_other wr mb i _ v h.ne).trans h.box
  bel := h.bel.setCell h.mk'.new.1 _
theorem LayS.reads {w wr w' : World} {B mb bw br N n : Nat} {mk : Mk} {rv : Value} {vs : List Value} {bx : Array Value} {f : Nat → Option Nat} (h : LayS w wr B mb bw br N mk rv vs bx) (hB : B ≤ w.heap.size) (hn : N ≤ n) (hm : NatM w' br f n) (hk : Kept (fun k => k = br) wr w') : LayS w w' B mb bw br n { mk with read := f } rv vs bx where
  mk' := h.mk'.reads hn hm hk
  box := (hk.same _ (Array.getElem?_eq_some_iff.1 h.box).1 (fun e => map_not_cells h.mk'.rd h.box e.symm)).trans h.box
  bel := h.bel.trans (hk.to_below (Nat.le_trans hB h.bel.size) (fun i hi e => by have := h.mk'.new.2.2; omega))
theorem LayS.writes {w wr w' : World} {B mb bw br N n : Nat} {mk : Mk} {rv : Value} {vs : List Value} {bx : Array Value} {f : Nat → Option Nat} (h : LayS w wr B mb bw br N mk rv vs bx) (hB : B ≤ w.heap.size) (hn : N ≤ n) (hm : NatM w' bw f n) (hk : Kept (fun k => k = bw) wr w') : LayS w w' B mb bw br n { mk with write := f } rv vs bx where
  mk' := h.mk'.writes hn hm hk
  box := (hk.same _ (Array.getElem?_eq_some_iff.1 h.box).1 (fun e => map_not_cells h.mk'.wr h.box e.symm)).trans h.box
  bel := h.bel.trans (hk.to_below (Nat.le_trans hB h.bel.size) (fun i hi e => by have := h.mk'.new.2.1; omega))
theorem wp_merge2 {P : Program} {c : Code} {Q : Exit → Act → World → Prop} {a : Act} {w : World} (A : Nat → Nat → Act) (R : Nat → Nat → World → Prop) (h : c.wp P (fun e a' w' => e = Exit.normal ∧ ∃ g cap, a' = A g cap ∧ R g cap w') a w) (hq : ∀ g cap w', R g cap w' → Q Exit.normal (A g cap) w') : c.wp P Q a w :=
  wp_mono h (fun e a' w' hh => by
    obtain ⟨rfl, g, cap, rfl, hr⟩ := hh
    exact hq g cap w' hr)
theorem IntsR.form {w : World} {v : Value} {l : List Nat} (h : IntsR w v l) : ∃ x c, v = .slice x l.length c ∧ ∀ i (hi : i < l.length), ∃ b, x = some (⟨b, 0, none⟩ : Addr) ∧ w.cell? ⟨b, i, none⟩ = some (.int .i64 (l[i] : Int)) := by
  rcases h with ⟨rfl, rfl⟩ | ⟨b, rfl, hc⟩
  · exact ⟨none, 0, rfl, fun i hi => absurd hi (Nat.not_lt_zero i)⟩
  · exact ⟨_, _, rfl, fun i hi => ⟨b, rfl, hc i hi⟩⟩
theorem LayS.monoN {w wr : World} {B mb bw br N n : Nat} {mk : Mk} {rv : Value} {vs : List Value} {bx : Array Value} (h : LayS w wr B mb bw br N mk rv vs bx) (hn : N ≤ n) : LayS w wr B mb bw br n mk rv vs bx where
  mk' := { h.mk' with wr := h.mk'.wr.mono hn, rd := h.mk'.rd.mono hn }
  box := h.box
  bel := h.bel
def mkF (mk : Mk) (o : OpN) (K : Nat) : Mk := ⟨putRow mk.rows K o, if wrO o = 0 then mk.write else fun r => if r = wrO o then some K else mk.write r, readU mk.read K (rdO o), mk.stN, mk.ldN, max mk.leave K, mk.first⟩
theorem mkF_fin {mk M : Mk} {o : OpN} {K : Nat} (hM : layM mk o = M) (hK : rowOf mk o = K) : M = ⟨(mkF mk o K).rows, (mkF mk o K).write, (mkF mk o K).read, if storeK o.kind = true then K + 1 else mk.stN, if loadK o.kind = true then max mk.ldN (K + 1) else mk.ldN, (mkF mk o K).leave, if leavesO o.kind = true then K + 1 else mk.first⟩ := by
  subst hK
  rw [← hM]
  rfl
section
variable {w : World} {B mb bw br N : Nat} {mk : Mk} {rv : Value} {vs : List Value}
theorem MkW.setLd (h : MkW w B mb mk rv vs bw br N) (K : Nat) : MkW (w.setCell ⟨mb, 4, none⟩ (.int .i64 (max ((mk.ldN : Int) - 1) (K : Int)))) B mb ⟨mk.rows, mk.write, mk.read, mk.stN, max mk.ldN (K + 1), mk.leave, mk.first⟩ rv vs bw br N :=
  h.field ⟨mk.rows, mk.write, mk.read, mk.stN, max mk.ldN (K + 1), mk.leave, mk.first⟩ rfl rfl rfl (fun k hk => setCell_other w mb 4 k _ hk) (by
    rw [Joins.block_setCell (i := 4) h.blk]
    show some (Obj.cells #[_, _, _, _, .int .i64 (max ((mk.ldN : Int) - 1) (K : Int)), _, _] _ _) = some (Obj.cells #[_, _, _, _, .int .i64 (((max mk.ldN (K + 1) : Nat) : Int) - 1), _, _] _ _)
    rw [show ((max mk.ldN (K + 1) : Nat) : Int) - 1 = max ((mk.ldN : Int) - 1) (K : Int) by omega])
theorem MkW.setSt (h : MkW w B mb mk rv vs bw br N) (K : Nat) : MkW (w.setCell ⟨mb, 3, none⟩ (.int .i64 (K : Int))) B mb ⟨mk.rows, mk.write, mk.read, K + 1, mk.ldN, mk.leave, mk.first⟩ rv vs bw br N :=
  h.field ⟨mk.rows, mk.write, mk.read, K + 1, mk.ldN, mk.leave, mk.first⟩ rfl rfl rfl (fun k hk => setCell_other w mb 3 k _ hk) (by
    rw [Joins.block_setCell (i := 3) h.blk]
    show some (Obj.cells #[_, _, _, .int .i64 (K : Int), _, _, _] _ _) = some (Obj.cells #[_, _, _, .int .i64 (((K + 1 : Nat) : Int) - 1), _, _, _] _ _)
    rw [show ((K + 1 : Nat) : Int) - 1 = (K : Int) by omega])
theorem MkW.setFs (h : MkW w B mb mk rv vs bw br N) (K : Nat) : MkW (w.setCell ⟨mb, 6, none⟩ (.int .i64 ((K : Int) + 1))) B mb ⟨mk.rows, mk.write, mk.read, mk.stN, mk.ldN, mk.leave, K + 1⟩ rv vs bw br N :=
  h.field ⟨mk.rows, mk.write, mk.read, mk.stN, mk.ldN, mk.leave, K + 1⟩ rfl rfl rfl (fun k hk => setCell_other w mb 6 k _ hk) (by
    rw [Joins.block_setCell (i := 6) h.blk]
    rfl)
end
set_option maxHeartbeats 32000000 in
set_option maxRecDepth 100000 in
theorem lay_at {w : World} {B mb bw br N : Nat} {mk : Mk} {rv : Value} {vs : List Value} (h : MkW w B mb mk rv vs bw br N) (hB : B ≤ w.heap.size) (hs : MkS mk) (hl2 : mk.rows.length ≤ 200) (ho : MkOK mk) (hN : N < 1000000) {k : OpK} {d a n : Nat} {b im : Int} (hg : opG ⟨k, d, a, b, im, n⟩) :
    Calls Tryz.prog 26 #[.pointer (some ⟨mb, 0, none⟩), .agg #[.string k.lit, .int .i64 (d : Int), .int .i64 (a : Int), .int .i64 b, .int .u32 im, .int .i64 (n : Int)]] w fun e w' => LayP w B mb bw br (N + 4) (layM mk ⟨k, d, a, b, im, n⟩) e w' := by
  obtain ⟨M, hM⟩ : ∃ M, layM mk ⟨k, d, a, b, im, n⟩ = M := ⟨_, rfl⟩
  rw [hM]
  have HMM := Lib.hid hM
  have hfo := from_ok ho ⟨k, d, a, b, im, n⟩
  have hro := rowOf_ok ho ⟨k, d, a, b, im, n⟩
  obtain ⟨K, hK⟩ : ∃ K, rowOf mk ⟨k, d, a, b, im, n⟩ = K := ⟨_, rfl⟩
  rw [hK] at hro
  have HK := Lib.hid hK
  have HRO := Lib.hid hro
  have hb' := (Below.refl w.heap.size w).alloc (Nat.le_refl _) (.cells #[.string k.lit, .int .i64 (d : Int), .int .i64 (a : Int), .int .i64 b, .int .u32 im, .int .i64 (n : Int)] 61)
  have HL0 : Hid (LayS w (w.alloc (.cells #[.string k.lit, .int .i64 (d : Int), .int .i64 (a : Int), .int .i64 b, .int .u32 im, .int .i64 (n : Int)] 61)) B mb bw br N mk rv vs #[.string k.lit, .int .i64 (d : Int), .int .i64 (a : Int), .int .i64 b, .int .u32 im, .int .i64 (n : Int)]) := Lib.hid ⟨h.below hb', heap_alloc_new w _, hb'.mono hB⟩
  have HB := Lib.hid hB
  have HS := Lib.hid hs
  have HOK := Lib.hid ho
  have HG := Lib.hid hg
  have HN := Lib.hid hN
  have HL2 := Lib.hid hl2
  have HNE : Hid (∀ r ∈ mk.rows, r ≠ [] ∧ r.length ≤ 100) := Lib.hid (fun r hr => ⟨ho.ne r hr, by have := ho.len r hr; omega⟩)
  have HOLD : Hid (∀ v ∈ vs, ∀ g, v.ownBlock = some g → g < w.heap.size) := Lib.hid (fun v hv g hg => by
    obtain ⟨j, hj, rfl⟩ := List.getElem_of_mem hv
    exact own_lt (h.row j hj (by rw [← h.len]; exact hj)) hg)
  have HFR := Lib.hid (fun W (hW : MkW W B mb mk rv vs bw br N) => from_at hW hs hg)
  obtain ⟨f0, hf0⟩ : ∃ f, fromM mk ⟨k, d, a, b, im, n⟩ = f := ⟨_, rfl⟩
  rw [hf0] at HFR hfo
  have HFF : Hid (findFit mk.rows ⟨k, d, a, b, im, n⟩ (mk.rows.length - f0) f0 = K) := Lib.hid (by rw [← hK, ← hf0]; rfl)
  have HF0 := Lib.hid hfo.2
  have hKI : (K : Int) ≤ 200 := by have := hro.2.1; omega
  clear hM hfo hro hK hb' h hB hs ho hg hN hf0 hl2
  go_enter Tryz.func26, Tryz.ntmps26
  go_wp2_with fail
  generalize w.alloc _ = W0 at *
  obtain ⟨c0, c1, c2, c3, c4, c5⟩ := six_cells HL0.out.box
  go_wp2_with fail
  refine (HFR.out _ HL0.out.mk').mono ?_
  rintro e w1 ⟨rfl, hb1⟩
  have HL1 := Lib.hid (HL0.out.below HB.out hb1)
  clear hb1 HL0 c0 c1 c2 c3 c4 c5 HFR
  go_wp2_with fail
  go_loopw [4] (fun v wr => ∃ q : Nat, v = .int .i64 (q : Int) ∧ q ≤ mk.rows.length ∧ Hid (findFit mk.rows ⟨k, d, a, b, im, n⟩ (mk.rows.length - q) q = K) ∧ Hid (LayS w wr B mb bw br N mk rv vs #[.string k.lit, .int .i64 (d : Int), .int .i64 (a : Int), .int .i64 b, .int .u32 im, .int .i64 (n : Int)])) (fun v _ => mk.rows.length - (intOf v).toNat)
  case atStart => exact ⟨f0, rfl, HF0.out, HFF, HL1⟩
  case round =>
    obtain ⟨q, rfl, hq, HQ, HL⟩ := hrel
    have hqI : (q : Int) ≤ 200 := by have := HL2.out; omega
    have HFT := Lib.hid (fits_at HL.out.mk' HS.out HNE.out (q := q) (by have := HL2.out; omega) (k := k) (d := d) (a := a) (n := n) (b := b) (im := im))
    obtain ⟨c0, c1, c2, c3, c4, c5⟩ := six_cells HL.out.box
    have HQL := Lib.hid hq
    clear hq
    cases hft : fitsM mk.rows q ⟨k, d, a, b, im, n⟩ with
    | false =>
      have hq2 : q < mk.rows.length := by
        rcases Nat.lt_or_ge q mk.rows.length with h1 | h1
        · exact h1
        · rw [fitsM_end h1] at hft
          cases hft
      have HQ2 := Lib.hid hq2
      have HST : Hid (findFit mk.rows ⟨k, d, a, b, im, n⟩ (mk.rows.length - (q + 1)) (q + 1) = K) := Lib.hid (by
        have h1 := HQ.out
        rw [show mk.rows.length - q = (mk.rows.length - (q + 1)) + 1 by omega, findFit_step, if_neg (by rw [hft]; decide)] at h1
        exact h1)
      rw [hft] at HFT
      clear hft hq2
      go_wp2_with fail
      refine HFT.out.mono ?_
      rintro e w2 ⟨rfl, hb2⟩
      have HL2' := Lib.hid (HL.out.below HB.out hb2)
      clear hb2 HFT c0 c1 c2 c3 c4 c5
      go_wp2_with fail
      go_roundw
      case rel => exact ⟨q + 1, by go_num, HQ2.out, HST, HL2'⟩
      case measure => have := HQ2.out; go_light; simp [intOf]; omega
    | true =>
      have hqK : K = q := by
        have h1 := HQ.out.symm
        cases hn : mk.rows.length - q with
        | zero => rw [hn] at h1; exact h1
        | succ n' =>
          rw [hn, findFit_step, if_pos hft] at h1
          exact h1
      rw [hft] at HFT
      subst hqK
      clear hft
      go_wp2_with fail
      refine HFT.out.mono ?_
      rintro e w2 ⟨rfl, hb2⟩
      have HL3 := Lib.hid (HL.out.below HB.out hb2)
      clear hb2 HFT c0 c1 c2 c3 c4 c5 HL HL1 HQ HQL HFF HF0 HNE hqI
      go_wp2_with fail
      obtain ⟨iR, hR1, hR2, hR3, hR4⟩ := info_parts Tryz.infoRow
      go_loopw [31] (fun _ wr => ∃ (rv2 : Value) (vs2 : List Value) (g : Bool), Hid (LayS w wr B mb bw br N (setB mk (if g = true then rows1 mk.rows K else mk.rows)) rv2 vs2 #[.string k.lit, .int .i64 (d : Int), .int .i64 (a : Int), .int .i64 b, .int .u32 im, .int .i64 (n : Int)]) ∧ Hid (∀ v ∈ vs2, ∀ g, v.ownBlock = some g → g < w.heap.size)) (fun _ wr => K + 1 - lenW ((wr.cell? ⟨mb, 0, none⟩).getD (.bool false)))
      case atStart => exact ⟨rv, vs, false, HL3, HOLD⟩
      case round =>
        obtain ⟨rv2, vs2, g, HL, HD⟩ := hrel
        obtain ⟨⟨m0, m1, m2, m3, m4, m5, m6⟩, mf⟩ := seven_cells HL.out.mk'.blk
        obtain ⟨ra, rc, hrv⟩ := rv_form HL.out.mk'
        have HRV := Lib.hid hrv
        have hrlen : (setB mk (if g = true then rows1 mk.rows K else mk.rows)).rows.length = (if g = true then rows1 mk.rows K else mk.rows).length := rfl
        rw [hrlen] at hrv
        clear hrlen m1 m2 m3 m4 m5 m6
        by_cases hin : K < (if g = true then rows1 mk.rows K else mk.rows).length
        · have HE : Hid ((if g = true then rows1 mk.rows K else mk.rows) = rows1 mk.rows K) := Lib.hid (by
            cases g with
            | true => rfl
            | false => exact (if_pos hin).symm)
          rw [HE.out] at HL hrv hin
          have hinI : ¬ ((rows1 mk.rows K).length : Int) ≤ (K : Int) := by omega
          have hinD : decide (((rows1 mk.rows K).length : Int) ≤ (K : Int)) = false := decide_eq_false hinI
          have HIN := Lib.hid hin
          clear hin HE HL3
          subst hrv
          have hvl : K < vs2.length := by rw [HL.out.mk'.len]; exact HIN.out
          have hvl2 : vs2.length = (rows1 mk.rows K).length := HL.out.mk'.len
          obtain ⟨gr, capr, hgr⟩ : ∃ gr capr, Value.slice ra (rows1 mk.rows K).length rc = .slice (some ⟨gr, 0, none⟩) vs2.length capr := by
            rcases Joins.ownsRow_forms HL.out.mk'.rows with ⟨_, hz⟩ | ⟨g2, cap2, hv⟩
            · omega
            · exact ⟨g2, cap2, hv⟩
          have hra : ra = some ⟨gr, 0, none⟩ ∧ rc = capr := by
            simp only [Value.slice.injEq] at hgr
            exact ⟨hgr.1, hgr.2.2⟩
          obtain ⟨rfl, rfl⟩ := hra
          have hrow := HL.out.mk'.row K hvl (show K < (setB mk (rows1 mk.rows K)).rows.length from HIN.out)
          have HROW := Lib.hid hrow
          have hck := HL.out.mk'.rows.cells (show (Value.slice (some ⟨gr, 0, none⟩) (rows1 mk.rows K).length rc).ownBlock = some gr from rfl) K (vs2[K]'hvl) (List.getElem?_eq_getElem hvl)
          rw [addr_add] at hck
          obtain ⟨xa, xc, hxv⟩ : ∃ xa xc, vs2[K]'hvl = .slice xa ((rows1 mk.rows K)[K]'HIN.out).length xc := by
            rcases Joins.ownsRow_forms hrow with ⟨h1, h2⟩ | ⟨g2, cap2, hv⟩
            · exact ⟨none, 0, by rw [h1]; exact congrArg (fun x => Value.slice none x 0) h2.symm⟩
            · exact ⟨_, cap2, hv⟩
          have HPUT := Lib.hid (putRow_is HRO.out.2.1 ⟨k, d, a, b, im, n⟩ HIN.out)
          have hopC : opC ⟨k, d, a, b, im, n⟩ = [.string k.lit, .int .i64 (d : Int), .int .i64 (a : Int), .int .i64 b, .int .u32 im, .int .i64 (n : Int)] := by unfold opC; rw [lit_text]
          have HREST : Hid (∀ (W w6 : World) (X : Obj) (g cap : Nat), LayS w W B mb bw br N (setB mk (rows1 mk.rows K)) (.slice (some ⟨gr, 0, none⟩) (rows1 mk.rows K).length rc) vs2 #[.string k.lit, .int .i64 (d : Int), .int .i64 (a : Int), .int .i64 b, .int .u32 im, .int .i64 (n : Int)] → w6.ownsRow B 61 6 (.slice (some ⟨g, 0, none⟩) (((rows1 mk.rows K)[K]'HIN.out).length + 1) cap) (((rows1 mk.rows K)[K]'HIN.out).length + 1) (((rows1 mk.rows K)[K]'HIN.out).flatMap opC ++ [.string k.lit, .int .i64 (d : Int), .int .i64 (a : Int), .int .i64 b, .int .u32 im, .int .i64 (n : Int)]) →
              (W.alloc X).grownBy w6 (Value.slice xa ((rows1 mk.rows K)[K]'HIN.out).length xc).ownBlock → ((Value.slice xa ((rows1 mk.rows K)[K]'HIN.out).length xc).ownBlock = some g ∨ g = (W.alloc X).heap.size) →
              (∃ vs3, LayS w (w6.setCell ⟨gr, K, none⟩ (.slice (some ⟨g, 0, none⟩) (((rows1 mk.rows K)[K]'HIN.out).length + 1) cap)) B mb bw br N (setB mk (putRow mk.rows K ⟨k, d, a, b, im, n⟩)) (.slice (some ⟨gr, 0, none⟩) (rows1 mk.rows K).length rc) vs3 #[.string k.lit, .int .i64 (d : Int), .int .i64 (a : Int), .int .i64 b, .int .u32 im, .int .i64 (n : Int)]) ∧ w6.cell? ⟨gr, K, none⟩ = some (.slice xa ((rows1 mk.rows K)[K]'HIN.out).length xc) ∧ w6.frozen? ⟨gr, K, none⟩ = false ∧ w6.heap[mb]? = W.heap[mb]? ∧ w6.heap[w.heap.size]? = W.heap[w.heap.size]?) := Lib.hid (fun W w6 X g cap hW h1 h2 h3 => by
            rw [← hxv] at h2 h3 ⊢
            rw [← hopC] at h1
            obtain ⟨r1, r2, r3, r4, r5⟩ := lay_rest (w6 := w6) (X := X) (g := g) (cap := cap) (o := ⟨k, d, a, b, im, n⟩) hW HB.out hgr hvl (show K < (setB mk (rows1 mk.rows K)).rows.length from HIN.out) HD.out h1 h2 h3
            exact ⟨⟨_, by rw [HPUT.out]; exact r1⟩, r2, r3, r4, r5⟩)
          have HROW2 : Hid (wr.ownsRow B 61 6 (.slice xa ((rows1 mk.rows K)[K]'HIN.out).length xc) ((rows1 mk.rows K)[K]'HIN.out).length (((rows1 mk.rows K)[K]'HIN.out).flatMap opC)) := by rw [← hxv]; exact HROW
          rw [hxv] at hck
          have hrlen : ((rows1 mk.rows K)[K]'HIN.out).length ≤ 4 := by
            have h1 : (rows1 mk.rows K)[K]'HIN.out ∈ rows1 mk.rows K := List.getElem_mem _
            generalize (rows1 mk.rows K)[K]'HIN.out = R at *
            unfold rows1 at h1
            split at h1
            · exact HOK.out.len R h1
            · rcases List.mem_append.1 h1 with h2 | h2
              · exact HOK.out.len R h2
              · rw [List.mem_singleton.1 h2]
                exact Nat.zero_le _
          have HRL := Lib.hid hrlen
          have hRI : (((rows1 mk.rows K)[K]'HIN.out).length : Int) ≤ 4 := by omega
          have hR1I : (K : Int) < ((rows1 mk.rows K).length : Int) := by have := HIN.out; omega
          clear hrlen hxv hrow HROW hvl hvl2 hgr hinI HPUT HRV
          generalize (rows1 mk.rows K)[K]'HIN.out = R at *
          generalize (rows1 mk.rows K).length = RL at *
          obtain ⟨iS, hS1, hS2, hS3, hS4⟩ := info_parts Tryz.infoO
          obtain ⟨c0, c1, c2, c3, c4, c5⟩ := six_cells HL.out.box
          have hal := (Below.refl wr.heap.size wr).alloc (Nat.le_refl _) (.cells #[.string k.lit, .int .i64 (d : Int), .int .i64 (a : Int), .int .i64 b, .int .u32 im, .int .i64 (n : Int)] 61)
          have p1 := (hal.cell (p := ⟨gr, K, none⟩) (World.block_lt_of_cell? _ _ hck)).trans hck
          have hbm := hal.block mb HL.out.mk'.lt
          have hbb := hal.block w.heap.size (Array.getElem?_eq_some_iff.1 HL.out.box).1
          have hng : mb ≠ gr := fun e => HL.out.mk'.mb_rows (by rw [e]; rfl)
          have hnb : w.heap.size ≠ gr := fun e => own_ne HL.out.mk'.rows HL.out.box (by decide) (by rw [e]; rfl)
          have HKS : Hid (∀ w' : World, w'.heap[mb]? = wr.heap[mb]? → w'.heap[w.heap.size]? = wr.heap[w.heap.size]? → w'.cell? ⟨mb, 0, none⟩ = some (.slice (some ⟨gr, 0, none⟩) RL rc) ∧ w'.cell? ⟨w.heap.size, 0, none⟩ = some (.string k.lit) ∧ w'.cell? ⟨w.heap.size, 1, none⟩ = some (.int .i64 (d : Int)) ∧ w'.cell? ⟨w.heap.size, 2, none⟩ = some (.int .i64 (a : Int)) ∧ w'.cell? ⟨w.heap.size, 3, none⟩ = some (.int .i64 b) ∧ w'.cell? ⟨w.heap.size, 4, none⟩ = some (.int .u32 im) ∧ w'.cell? ⟨w.heap.size, 5, none⟩ = some (.int .i64 (n : Int))) := Lib.hid (fun w' h1 h2 => ⟨(World.cell?_of_block (a := ⟨mb, 0, none⟩) h1).trans m0, (World.cell?_of_block (a := ⟨w.heap.size, 0, none⟩) h2).trans c0, (World.cell?_of_block (a := ⟨w.heap.size, 1, none⟩) h2).trans c1, (World.cell?_of_block (a := ⟨w.heap.size, 2, none⟩) h2).trans c2, (World.cell?_of_block (a := ⟨w.heap.size, 3, none⟩) h2).trans c3, (World.cell?_of_block (a := ⟨w.heap.size, 4, none⟩) h2).trans c4, (World.cell?_of_block (a := ⟨w.heap.size, 5, none⟩) h2).trans c5⟩)
          have HBM := Lib.hid (And.intro hbm hbb)
          have HNG := Lib.hid (And.intro hng hnb)
          clear hal hbm hbb hng hnb
          go_wp2_with fail
          apply wp_merge2 (R := fun (_ _ : Nat) w7 => ∃ vs3 : List Value, LayS w w7 B mb bw br N ⟨putRow mk.rows K ⟨k, d, a, b, im, n⟩, mk.write, mk.read, mk.stN, mk.ldN, mk.leave, mk.first⟩ (.slice (some ⟨gr, 0, none⟩) RL rc) vs3 #[.string k.lit, .int .i64 (d : Int), .int .i64 (a : Int), .int .i64 b, .int .u32 im, .int .i64 (n : Int)])
          case h =>
            refine wp_region_noPanic ?_
            obtain ⟨k0, k1, k2, k3, k4, k5, k6⟩ := HKS.out _ HBM.out.1 HBM.out.2
            go_region_law (refine step_append_lies _ rfl (.tmp 45) (.tmp 47) 32 rfl B 61 iS (.agg #[.string ByteArray.empty, .int .i64 0, .int .i64 0, .int .i64 0, .int .u32 0, .int .i64 0]) 6 56 Tryz.underlying32 hS1 hS2 hS3 hS4 rfl (by decide) _ R.length (R.flatMap opC) rfl (HROW2.out.alloc _) _ 1 1 [.string k.lit, .int .i64 (d : Int), .int .i64 (a : Int), .int .i64 b, .int .u32 im, .int .i64 (n : Int)] rfl rfl (fun j u hj => six_news wr _ _ _ _ _ _ _ j u hj) (by rw [← hopC]; exact opC_one _) (by decide) (by unfold maxLen; have := HRL.out; omega) (by have := HRL.out; omega) (by simp; have := HB.out; have := HL.out.bel.size; omega) _ rfl ?_; intro g cap w6 hown6 hgrow6 hat6 hlt6; obtain ⟨⟨vs3, hL6⟩, a1, a2, a3, a4⟩ := (by first | exact HREST.out _ _ _ _ _ HL.out hown6 hgrow6 hat6 | exact HREST.out _ _ _ _ _ (HL.out.below HB.out (Below.refl _ _).drew) hown6 hgrow6 hat6); have HL6 := Lib.hid hL6; obtain ⟨l0, l1, l2, l3, l4, l5, l6⟩ := HKS.out _ a3 a4; clear hL6 hown6 hgrow6 hat6 hlt6)
            all_goals exact NoPanic.normal ⟨rfl, g, cap, rfl, vs3, HL6.out⟩
          case hq =>
            rintro g cap w7 ⟨vs3, hL7⟩
            have HNN := Lib.hid hL7
            clear hL7 p1 m0 mf c0 c1 c2 c3 c4 c5 hck HKS HBM HNG HREST HROW2 HL HD HRL hopC
            obtain ⟨⟨m0, m1, m3, m4, m5, m6, m7⟩, mf⟩ := seven_cells HNN.out.mk'.blk
            dsimp only at m0 m1 m3 m4 m5 m6 m7
            go_upto_region 8 with (fail)
            have hl3 := HNN.out.field (i := 5) (v := .int .i64 (max (mk.leave : Int) (K : Int))) ⟨putRow mk.rows K ⟨k, d, a, b, im, n⟩, mk.write, mk.read, mk.stN, mk.ldN, max mk.leave K, mk.first⟩ rfl rfl rfl (by
              have := Joins.block_setCell (i := 5) HNN.out.mk'.blk (.int .i64 (max (mk.leave : Int) (K : Int)))
              rw [this]
              show _ = some (Obj.cells #[_, _, _, _, _, .int .i64 ((max mk.leave K : Nat) : Int), _] _ _)
              rw [show ((max mk.leave K : Nat) : Int) = max (mk.leave : Int) (K : Int) by omega]
              rfl)
            have HL3 := Lib.hid hl3
            clear hl3 HNN m0 m1 m3 m4 m5 m6 m7 mf
            generalize w7.setCell ⟨mb, 5, none⟩ (.int .i64 (max (mk.leave : Int) (K : Int))) = w8 at *
            obtain ⟨c0, c1, c2, c3, c4, c5⟩ := six_cells HL3.out.box
            go_wp2_with fail
            refine (optReads_at (k := k) (d := d) (a := a) (n := n) (b := b) (im := im) HG.out _).mono ?_
            intro e w9 h9
            obtain ⟨v9, rfl, hv9, hb9⟩ := h9
            have HL9 := Lib.hid (HL3.out.below HB.out hb9)
            have HFIN := Lib.hid (mkF_fin HMM.out HK.out)
            have HKC := Lib.hid (lit_cases k)
            have hRL := rdO_len ⟨k, d, a, b, im, n⟩
            have HRS := Lib.hid (rdO_small HG.out)
            have HV9 := Lib.hid hv9
            clear hv9 hb9 HL3 c0 c1 c2 c3 c4 c5
            obtain ⟨vx, vc, rfl, hvc⟩ := IntsR.form HV9.out
            have HVC := Lib.hid hvc
            have hrI : ((rdO ⟨k, d, a, b, im, n⟩).length : Int) ≤ 3 := by omega
            have HRL := Lib.hid hRL
            clear hvc HV9 hRL
            go_wp2_with fail
            go_loopw [62] (fun iv wr => ∃ j : Nat, j ≤ (rdO ⟨k, d, a, b, im, n⟩).length ∧ iv = .int .i64 (j : Int) ∧ Hid (LayS w wr B mb bw br (N + j) ⟨putRow mk.rows K ⟨k, d, a, b, im, n⟩, mk.write, readU mk.read K ((rdO ⟨k, d, a, b, im, n⟩).take j), mk.stN, mk.ldN, max mk.leave K, mk.first⟩ (.slice (some ⟨gr, 0, none⟩) RL rc) vs3 #[.string k.lit, .int .i64 (d : Int), .int .i64 (a : Int), .int .i64 b, .int .u32 im, .int .i64 (n : Int)]) ∧ Hid (Kept (fun k => k = br) w9 wr)) (fun iv _ => (rdO ⟨k, d, a, b, im, n⟩).length - (intOf iv).toNat)
            case atStart =>
              refine ⟨0, Nat.zero_le _, rfl, ?_, Lib.hid (Kept.refl _ _)⟩
              have hla := HL9.out
              have hru : readU mk.read K ((rdO ⟨k, d, a, b, im, n⟩).take 0) = mk.read := by funext r; unfold readU; rw [List.take_zero, if_neg (by simp)]
              rw [hru]
              exact Lib.hid hla
            case round =>
              obtain ⟨j, hj, rfl, HLJ, HKJ⟩ := hrel
              by_cases hlt : j < (rdO ⟨k, d, a, b, im, n⟩).length
              · have hjI : (j : Int) < ((rdO ⟨k, d, a, b, im, n⟩).length : Int) := by omega
                have HJ := Lib.hid hlt
                obtain ⟨vb, hvx, hcv⟩ := HVC.out j hlt
                subst hvx
                have hvne : ¬ vb = br := fun e => by
                  obtain ⟨D, ⟨es, cl, hD, _⟩, _⟩ := HL9.out.mk'.rd.ex
                  subst e
                  simp [World.cell?, hD] at hcv
                have c := (World.cell?_of_block (a := ⟨vb, j, none⟩) (HKJ.out.same vb (World.block_lt_of_cell? _ _ hcv) hvne)).trans hcv
                have hr64 := HRS.out _ (List.getElem_mem hlt)
                have HRU := Lib.hid (readU_snoc mk.read K ((rdO ⟨k, d, a, b, im, n⟩).take j) ((rdO ⟨k, d, a, b, im, n⟩)[j]'hlt))
                have HTK : Hid ((rdO ⟨k, d, a, b, im, n⟩).take j ++ [(rdO ⟨k, d, a, b, im, n⟩)[j]'hlt] = (rdO ⟨k, d, a, b, im, n⟩).take (j + 1)) := Lib.hid (List.take_succ_eq_append_getElem hlt).symm
                rw [HTK.out] at HRU
                clear hcv hvne
                generalize (rdO ⟨k, d, a, b, im, n⟩)[j] = r at *
                clear hlt
                have hlk := natM_get HLJ.out.mk'.rd (r := r) (by omega)
                have hlkD := natM_get (show NatM wr.drew br (readU mk.read K ((rdO ⟨k, d, a, b, im, n⟩).take j)) (N + j) from HLJ.out.mk'.rd.of_block rfl) (r := r) (by omega)
                have hrI2 : (r : Int) < 64 := by omega
                have hqb : natD (readU mk.read K ((rdO ⟨k, d, a, b, im, n⟩).take j) r) ≤ 500 := by
                  unfold natD readU
                  split
                  · rename_i q hq
                    split at hq
                    · cases hm : mk.read r with
                      | none =>
                        rw [hm] at hq
                        have e : K = q := Option.some.inj hq
                        omega
                      | some y =>
                        rw [hm] at hq
                        have e : max y K = q := Option.some.inj hq
                        have := HS.out.rd r y hm
                        omega
                    · have := HS.out.rd r q hq
                      omega
                  · exact Nat.zero_le _
                obtain ⟨⟨m0, m1, m3, m4, m5, m6, m7⟩, mf⟩ := seven_cells HLJ.out.mk'.blk
                clear hr64 HTK
                have HRD := Lib.hid (show NatM wr br (readU mk.read K ((rdO ⟨k, d, a, b, im, n⟩).take j)) (N + j) from HLJ.out.mk'.rd)
                generalize readU mk.read K ((rdO ⟨k, d, a, b, im, n⟩).take j) = ru at *
                generalize hqq : natD (ru r) = q0 at *
                have hq0I : (q0 : Int) ≤ 500 := by omega
                have HQ0 := Lib.hid hqq
                clear hqq hqb m0 m1 m4 m5 m6 m7
                go_wp2_with fail
                refine wp_region_still_tail 13 (by kernel_rfl) (by kernel_rfl) ?_
                simp only [List.take_succ_cons, List.take_zero, List.drop_succ_cons, List.drop_zero]
                repeat still_step
                try refine wpStill_nil ?_
                change wpList _ _ _ _ _ wr.drew
                have HLJ' : Hid (LayS w wr.drew B mb bw br (N + j) _ _ _ _) := Lib.hid (HLJ.out.below HB.out (Below.refl _ wr).drew)
                have HRD' : Hid (NatM wr.drew br ru (N + j)) := Lib.hid (HRD.out.of_block rfl)
                have HKD := Lib.hid (HKJ.out.trans (Kept.of_below (Below.refl _ wr).drew))
                clear hlk hlkD c HLJ HRD HKJ m3 mf
                generalize wr.drew = W5 at *
                refine wpList_mapF_put rfl (.tmp 69) (.tmp 70) (.tmp 78) 77 rfl HRD'.out Tryz.underlying3 Tryz.underlying77 Tryz.underlying3 (by unfold maxLen; have := HN.out; have := HRL.out; have := HJ.out; omega) (p := (r : Int)) (y := max (q0 : Int) (K : Int)) (wf_range (by omega) (by omega)) (wf_range (by omega) (by omega)) rfl rfl rfl ?_
                intro w' hmw hkw
                have hmw2 : NatM w' br (fun x => if x = r then some (max q0 K) else ru x) (N + j + 1) := by
                  have h1 := hmw
                  rw [show max (q0 : Int) (K : Int) = ((max q0 K : Nat) : Int) by omega, natF_put] at h1
                  exact h1
                rw [HRU.out] at hmw2
                have hlw := HLJ'.out.reads HB.out (Nat.le_succ _) hmw2 hkw
                have HLW := Lib.hid hlw
                have HKW := Lib.hid (HKD.out.trans hkw)
                clear hlw hmw hmw2 hkw HLJ' HRD' HKD HRU HQ0
                go_wp2_with fail
                go_roundw
                case rel => exact ⟨j + 1, HJ.out, by go_num, HLW, HKW⟩
                case measure => have := HJ.out; go_light; simp [intOf]; omega
              · obtain rfl : j = (rdO ⟨k, d, a, b, im, n⟩).length := by omega
                have hd : decide (((rdO ⟨k, d, a, b, im, n⟩).length : Int) < ((rdO ⟨k, d, a, b, im, n⟩).length : Int)) = false := decide_eq_false (by omega)
                have hla := HLJ.out
                rw [List.take_length] at hla
                have HLA := Lib.hid (hla.monoN (show N + (rdO ⟨k, d, a, b, im, n⟩).length ≤ N + 3 by have := HRL.out; omega))
                clear hla HLJ HKJ HRS HRL HVC
                obtain ⟨c0, c1, c2, c3, c4, c5⟩ := six_cells HLA.out.box
                go_wp2_with fail
                refine (optWrites_at (d := d) (a := a) (n := n) (b := b) (im := im) k _).mono ?_
                rintro e wt ⟨rfl, hbt⟩
                have HLT := Lib.hid (HLA.out.below HB.out hbt)
                clear hbt HLA c0 c1 c2 c3 c4 c5
                obtain ⟨c0, c1, c2, c3, c4, c5⟩ := six_cells HLT.out.box
                have hws := wrO_small HG.out
                by_cases hw0 : wrO ⟨k, d, a, b, im, n⟩ = 0
                · have hlw := HLT.out.monoN (show N + 3 ≤ N + 4 by omega)
                  have hmf : mkF mk ⟨k, d, a, b, im, n⟩ K = ⟨putRow mk.rows K ⟨k, d, a, b, im, n⟩, mk.write, readU mk.read K (rdO ⟨k, d, a, b, im, n⟩), mk.stN, mk.ldN, max mk.leave K, mk.first⟩ := by unfold mkF; rw [if_pos hw0]
                  rw [← hmf] at hlw
                  have HLW := Lib.hid hlw
                  rw [hw0]
                  clear HLT hws hw0 hlw hmf
                  rcases HKC.out with ⟨hk1, hkl⟩ | ⟨hk1, hkl⟩ | ⟨h1, h2, ⟨n1, n2⟩, ⟨n3, n4⟩⟩
                  · have hfin := HFIN.out
                    have hq1 : loadK k = true := by rw [hk1]; rfl
                    have hq2 : storeK k = false := by rw [hk1]; rfl
                    have hq3 : leavesO k = false := by rw [hk1]; rfl
                    rw [if_neg (by rw [hq2]; decide), if_pos hq1, if_neg (by rw [hq3]; decide)] at hfin
                    clear hq1 hq2 hq3 hk1
                    rw [hkl] at c0
                    obtain ⟨⟨m0, m1, m3, m4, m5, m6, m7⟩, mf⟩ := seven_cells HLW.out.mk'.blk
                    have hl4 := HLW.out.mk'.setLd K
                    have HM4 := Lib.hid hl4
                    have HB4 := Lib.hid (HLW.out.bel.setCell (p := ⟨mb, 4, none⟩) HLW.out.mk'.new.1 (.int .i64 (max ((mk.ldN : Int) - 1) (K : Int))))
                    clear hl4
                    go_wp2
                    go_end0
                    exact LayP.done HM4.out hfin HB4.out
                  · have hfin := HFIN.out
                    have hq1 : loadK k = false := by rw [hk1]; rfl
                    have hq2 : storeK k = true := by rw [hk1]; rfl
                    have hq3 : leavesO k = false := by rw [hk1]; rfl
                    rw [if_pos hq2, if_neg (by rw [hq1]; decide), if_neg (by rw [hq3]; decide)] at hfin
                    clear hq1 hq2 hq3 hk1
                    rw [hkl] at c0
                    obtain ⟨⟨m0, m1, m3, m4, m5, m6, m7⟩, mf⟩ := seven_cells HLW.out.mk'.blk
                    have hl4 := HLW.out.mk'.setSt K
                    have HM4 := Lib.hid hl4
                    have HB4 := Lib.hid (HLW.out.bel.setCell (p := ⟨mb, 3, none⟩) HLW.out.mk'.new.1 (.int .i64 (K : Int)))
                    clear hl4
                    go_wp2
                    go_end0
                    exact LayP.done HM4.out hfin HB4.out
                  · have hfin := HFIN.out
                    rw [if_neg (by rw [h2]; decide), if_neg (by rw [h1]; decide)] at hfin
                    have HLV := Lib.hid (fun wx => (by have := irLeaves_any k wx; rw [lit_text, leavesK_O] at this; exact this : Calls Tryz.prog 30 #[.string k.lit] wx fun e w' => e = .returned (.bool (leavesO k)) ∧ wx = w'))
                    clear h1 h2
                    obtain ⟨⟨m0, m1, m3, m4, m5, m6, m7⟩, mf⟩ := seven_cells HLW.out.mk'.blk
                    have hl4 := HLW.out.mk'.setFs K
                    have HM4 := Lib.hid hl4
                    have HB4 := Lib.hid (HLW.out.bel.setCell (p := ⟨mb, 6, none⟩) HLW.out.mk'.new.1 (.int .i64 ((K : Int) + 1)))
                    clear hl4
                    generalize k.lit = kt at *
                    cases hlq : leavesO k with
                    | true =>
                      rw [hlq, if_pos rfl] at hfin
                      rw [hlq] at HLV
                      clear hlq
                      go_wp2_with (go_at_call 30; (with_reducible refine (HLV.out _).mono ?_); rintro e w6 ⟨rfl, rfl⟩)
                      go_end0
                      exact LayP.done HM4.out hfin HB4.out
                    | false =>
                      rw [hlq, if_neg (by decide)] at hfin
                      rw [hlq] at HLV
                      clear hlq
                      go_wp2_with (go_at_call 30; (with_reducible refine (HLV.out _).mono ?_); rintro e w6 ⟨rfl, rfl⟩)
                      go_end0
                      exact LayP.done HLW.out.mk' hfin HLW.out.bel
                · have hwne : ((wrO ⟨k, d, a, b, im, n⟩ : Int) != 0) = true := by simpa using hw0
                  have hmf : mkF mk ⟨k, d, a, b, im, n⟩ K = { (⟨putRow mk.rows K ⟨k, d, a, b, im, n⟩, mk.write, readU mk.read K (rdO ⟨k, d, a, b, im, n⟩), mk.stN, mk.ldN, max mk.leave K, mk.first⟩ : Mk) with write := fun r => if r = wrO ⟨k, d, a, b, im, n⟩ then some K else mk.write r } := by unfold mkF; rw [if_neg hw0]
                  have HMF := Lib.hid hmf
                  have hwI : (wrO ⟨k, d, a, b, im, n⟩ : Int) < 64 := by omega
                  clear hmf hw0 hws
                  generalize wrO ⟨k, d, a, b, im, n⟩ = wd at *
                  obtain ⟨⟨m0, m1, m3, m4, m5, m6, m7⟩, mf⟩ := seven_cells HLT.out.mk'.blk
                  go_wp2_with (refine wpList_mapF_put rfl (.tmp 87) (.tmp 88) (.tmp 89) 77 rfl HLT.out.mk'.wr Tryz.underlying3 Tryz.underlying77 Tryz.underlying3 (by unfold maxLen; have := HN.out; omega) (p := (wd : Int)) (y := (K : Int)) (wf_range (by omega) (by omega)) (wf_range (by omega) (by omega)) rfl rfl rfl ?_)
                  intro w' hmw hkw
                  have hmw2 : NatM w' bw (fun x => if x = wd then some K else mk.write x) (N + 3 + 1) := by
                    have := hmw
                    rw [show updF (natF mk.write) (wd : Int) (some (K : Int)) = natF (fun x => if x = wd then some K else mk.write x) from natF_put mk.write wd K] at this
                    exact this
                  have hlw := HLT.out.writes HB.out (Nat.le_succ _) hmw2 hkw
                  rw [← HMF.out] at hlw
                  have HLW := Lib.hid hlw
                  clear hlw hmw hmw2 hkw HLT HMF m0 m1 m3 m4 m5 m6 m7 mf c0 c1 c2 c3 c4 c5
                  obtain ⟨c0, c1, c2, c3, c4, c5⟩ := six_cells HLW.out.box
                  rcases HKC.out with ⟨hk1, hkl⟩ | ⟨hk1, hkl⟩ | ⟨h1, h2, ⟨n1, n2⟩, ⟨n3, n4⟩⟩
                  · have hfin := HFIN.out
                    have hq1 : loadK k = true := by rw [hk1]; rfl
                    have hq2 : storeK k = false := by rw [hk1]; rfl
                    have hq3 : leavesO k = false := by rw [hk1]; rfl
                    rw [if_neg (by rw [hq2]; decide), if_pos hq1, if_neg (by rw [hq3]; decide)] at hfin
                    clear hq1 hq2 hq3 hk1
                    rw [hkl] at c0
                    obtain ⟨⟨m0, m1, m3, m4, m5, m6, m7⟩, mf⟩ := seven_cells HLW.out.mk'.blk
                    have hl4 := HLW.out.mk'.setLd K
                    have HM4 := Lib.hid hl4
                    have HB4 := Lib.hid (HLW.out.bel.setCell (p := ⟨mb, 4, none⟩) HLW.out.mk'.new.1 (.int .i64 (max ((mk.ldN : Int) - 1) (K : Int))))
                    clear hl4
                    go_wp2
                    go_end0
                    exact LayP.done HM4.out hfin HB4.out
                  · have hfin := HFIN.out
                    have hq1 : loadK k = false := by rw [hk1]; rfl
                    have hq2 : storeK k = true := by rw [hk1]; rfl
                    have hq3 : leavesO k = false := by rw [hk1]; rfl
                    rw [if_pos hq2, if_neg (by rw [hq1]; decide), if_neg (by rw [hq3]; decide)] at hfin
                    clear hq1 hq2 hq3 hk1
                    rw [hkl] at c0
                    obtain ⟨⟨m0, m1, m3, m4, m5, m6, m7⟩, mf⟩ := seven_cells HLW.out.mk'.blk
                    have hl4 := HLW.out.mk'.setSt K
                    have HM4 := Lib.hid hl4
                    have HB4 := Lib.hid (HLW.out.bel.setCell (p := ⟨mb, 3, none⟩) HLW.out.mk'.new.1 (.int .i64 (K : Int)))
                    clear hl4
                    go_wp2
                    go_end0
                    exact LayP.done HM4.out hfin HB4.out
                  · have hfin := HFIN.out
                    rw [if_neg (by rw [h2]; decide), if_neg (by rw [h1]; decide)] at hfin
                    have HLV := Lib.hid (fun wx => (by have := irLeaves_any k wx; rw [lit_text, leavesK_O] at this; exact this : Calls Tryz.prog 30 #[.string k.lit] wx fun e w' => e = .returned (.bool (leavesO k)) ∧ wx = w'))
                    clear h1 h2
                    obtain ⟨⟨m0, m1, m3, m4, m5, m6, m7⟩, mf⟩ := seven_cells HLW.out.mk'.blk
                    have hl4 := HLW.out.mk'.setFs K
                    have HM4 := Lib.hid hl4
                    have HB4 := Lib.hid (HLW.out.bel.setCell (p := ⟨mb, 6, none⟩) HLW.out.mk'.new.1 (.int .i64 ((K : Int) + 1)))
                    clear hl4
                    generalize k.lit = kt at *
                    cases hlq : leavesO k with
                    | true =>
                      rw [hlq, if_pos rfl] at hfin
                      rw [hlq] at HLV
                      clear hlq
                      go_wp2_with (go_at_call 30; (with_reducible refine (HLV.out _).mono ?_); rintro e w6 ⟨rfl, rfl⟩)
                      go_end0
                      exact LayP.done HM4.out hfin HB4.out
                    | false =>
                      rw [hlq, if_neg (by decide)] at hfin
                      rw [hlq] at HLV
                      clear hlq
                      go_wp2_with (go_at_call 30; (with_reducible refine (HLV.out _).mono ?_); rintro e w6 ⟨rfl, rfl⟩)
                      go_end0
                      exact LayP.done HLW.out.mk' hfin HLW.out.bel
        · have hgf : g = false := by
            cases g with
            | false => rfl
            | true => exact absurd (rows1_len HRO.out.2.1) hin
          subst hgf
          have HKE := Lib.hid (show K = mk.rows.length by have h1 : ¬ K < mk.rows.length := hin; have := HRO.out.2.1; omega)
          have hrv2 : rv2 = .slice ra mk.rows.length rc := hrv
          have hge : (mk.rows.length : Int) ≤ (K : Int) := by have h1 : ¬ K < mk.rows.length := hin; omega
          have HLL : Hid (LayS w wr B mb bw br N mk rv2 vs2 #[.string k.lit, .int .i64 (d : Int), .int .i64 (a : Int), .int .i64 b, .int .u32 im, .int .i64 (n : Int)]) := HL
          clear hin hrv HL
          subst hrv2
          have hrc : (mk.rows.length : Int) ≤ 200 := by have := HL2.out; omega
          go_wp2_with (at_builtin; refine wpList_append_own _ rfl (.tmp 29) (.tmp 30) 43 rfl B 32 iR (.slice none 0 0) 1 24 Tryz.underlying43 hR1 hR2 hR3 hR4 rfl (by decide) _ vs2.length vs2 rfl (HLL.out.mk'.rows.alloc _) ⟨wr.heap.size, 0, none⟩ 1 1 [.slice none 0 0] rfl rfl (one_news wr _ _) (by intro u hu; rw [List.mem_singleton.1 hu]; rfl) (by unfold maxLen; have := HLL.out.mk'.len; have := HL2.out; omega) (by have := HLL.out.mk'.len; have := HL2.out; omega) (by simp; have := HB.out; have := HLL.out.bel.size; omega) ?_)
          intro v5 w5 hown5 hgr5 _
          have HLG := Lib.hid (HLL.out.grow HB.out hown5 ((World.grownBy_alloc wr _ _).trans hgr5))
          have HDG : Hid (∀ v ∈ vs2 ++ [.slice none 0 0], ∀ g, v.ownBlock = some g → g < w.heap.size) := Lib.hid (fun v hv g hg => by
            rcases List.mem_append.1 hv with h1 | h1
            · exact HD.out v h1 g hg
            · rw [List.mem_singleton.1 h1] at hg
              cases hg)
          obtain ⟨va5, vc5, hv5⟩ : ∃ a c, v5 = .slice a (vs2.length + 1) c := by
            rcases Joins.ownsRow_forms hown5 with ⟨_, hz⟩ | ⟨g, cap, hv⟩
            · omega
            · exact ⟨_, _, hv⟩
          have hb5 : w5.heap[mb]? = wr.heap[mb]? := ((World.grownBy_alloc wr _ _).trans hgr5).block mb HLL.out.mk'.lt HLL.out.mk'.mb_rows
          have hcell5 : w5.cell? ⟨mb, 0, none⟩ = some (.slice ra mk.rows.length rc) := (World.cell?_of_block (a := ⟨mb, 0, none⟩) hb5).trans m0
          have hfr5 : w5.frozen? ⟨mb, 0, none⟩ = false := (World.frozen?_of_block (a := ⟨mb, 0, none⟩) hb5).trans (mf 0)
          have HM5 : Hid ((w5.setCell ⟨mb, 0, none⟩ v5).cell? ⟨mb, 0, none⟩ = some v5) := Lib.hid (World.cell?_setCell_same w5 ⟨mb, 0, none⟩ v5 hcell5)
          have HVL := Lib.hid HLL.out.mk'.len
          have HM0 := Lib.hid m0
          clear hown5 hgr5 hb5 m0 mf
          subst hv5
          go_wp2_with fail
          go_roundw
          case rel =>
            refine ⟨.slice va5 (vs2.length + 1) vc5, vs2 ++ [.slice none 0 0], true, ?_, HDG⟩
            have := HLG.out
            rw [if_pos rfl, show rows1 mk.rows K = mk.rows ++ [[]] from if_neg (by rw [HKE.out]; omega)]
            exact Lib.hid this
          case measure =>
            have h1 := HM5.out
            have h2 := HVL.out
            have h3 := HKE.out
            have h4 := HM0.out
            go_light
            rw [h1, h4]
            simp [lenW]
            omega
end Go.Proofs.YtlnefmgiiogcmaaGreatDoor
