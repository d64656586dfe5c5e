/- The walk of the document's EvalOf. The walks of law3's longPlace and placed. The walk of law3's model. A state is equal to itself. The walk of changelinglaw1.AlikeWords at two memories that are alike. Conditions: as each theorem states. -/
import Derived.Test.YtadoaldnjnkhgaaGreatDoorQ48
import Derived.Maps.OwnRows
import Derived.Test.YtadoaldnjnkhgaaGreatDoorQ20
import Derived.StillTailTactics
import Derived.Test.YtadoaldnjnkhgaaGreatDoorQ29
import Derived.ChangeKeysEq
set_option linter.unusedVariables false
set_option linter.unusedSimpArgs false
namespace Go.Proofs.YtadoaldnjnkhgaaGreatDoor
open Go.RowKit
theorem Tryz.infoSl : (Tryz.prog.info? 32).map (fun i => (i.zero, i.size, i.bytes)) = some (some (.slice none 0 0), 1, 24) := by kernel_rfl
structure MadeRows (w0 w : World) (rv : Value) (bs : List Nat) (ops : List OpN) : Prop where
  own : w.ownsRow (w0.heap.size + 1) 32 1 rv bs.length (bs.map fun b => .slice (some ⟨b, 0, none⟩) 1 1)
  op : ∀ i (h : i < bs.length) (h2 : i < ops.length), OpsAt w bs[i] [ops[i]]
  ty : ∀ b ∈ bs, ∃ cs, w.heap[b]? = some (.cells cs 86 (0, 0))
  below : Below w0.heap.size w0 w
  res : w.heap[w0.heap.size]? = some (.cells #[.bool false, .int .i64 0, .bool false] 51 (0, 0))
theorem one_new1 (w : World) (v : Value) (t : TypeId) (b : Nat) (hb : b = w.heap.size) : ∀ j u, [v][j]? = some u → (w.alloc (.cells #[v] t)).cell? ((⟨b, 0, none⟩ : Addr).add j) = some u := by
  intro j u hj
  subst hb
  match j, hj with
  | 0, hj => simp at hj; subst hj; simp [Addr.add]
  | j + 1, hj => simp at hj
theorem MadeRows.step {w0 wr w4 : World} {rv rv' : Value} {bs : List Nat} {ops : List OpN} {t2 : TypeId} {ca : Array Value} (h : MadeRows w0 wr rv bs ops) (hi : bs.length < ops.length) (hca : ca = (opC ops[bs.length]).toArray)
    (hown : w4.ownsRow (w0.heap.size + 1) 32 1 rv' (bs.length + 1) ((bs.map fun b => .slice (some ⟨b, 0, none⟩) 1 1) ++ [.slice (some ⟨wr.heap.size, 0, none⟩) 1 1]))
    (hg : ((wr.alloc (.cells ca 86)).alloc (.cells #[.slice (some ⟨wr.heap.size, 0, none⟩) 1 1] t2)).grownBy w4 rv.ownBlock) :
    MadeRows w0 w4 rv' (bs ++ [wr.heap.size]) ops := by
  have hb1 := (Below.refl wr.heap.size wr).alloc (Nat.le_refl _) (.cells ca 86)
  have hb2 := hb1.alloc hb1.size (.cells #[.slice (some ⟨wr.heap.size, 0, none⟩) 1 1] t2)
  have hz := Below.size h.below
  have hrl := (Array.getElem?_eq_some_iff.1 h.res).1
  have hold : ∀ (k : Nat) (cs : Array Value) (t : TypeId) (fr : Nat × Nat), wr.heap[k]? = some (Obj.cells cs t fr) → 32 ≠ t → w4.heap[k]? = some (Obj.cells cs t fr) := by
    intro k cs t fr hk hne
    have hkl := (Array.getElem?_eq_some_iff.1 hk).1
    exact (hg.block k (Nat.lt_of_lt_of_le hkl hb2.size) (own_ne h.own hk hne)).trans ((hb2.block k hkl).trans hk)
  have hnew : w4.heap[wr.heap.size]? = some (.cells ca 86 (0, 0)) := by
    have h1 := heap_alloc_new wr (.cells ca 86)
    have hl : wr.heap.size < (wr.alloc (.cells ca 86)).heap.size := by simp
    have h2 := ((Below.refl _ (wr.alloc (.cells ca 86))).alloc (Nat.le_refl _) (.cells #[.slice (some ⟨wr.heap.size, 0, none⟩) 1 1] t2)).block wr.heap.size hl
    have h3 := h2.trans h1
    have hne : some wr.heap.size ≠ rv.ownBlock := by
      intro e
      have := h.own.lt wr.heap.size e.symm
      omega
    exact (hg.block _ (by simp; omega) hne).trans h3
  refine ⟨?_, ?_, ?_, ?_, hold _ _ _ _ h.res (by decide)⟩
  · rw [List.length_append, List.map_append]
    exact hown
  · intro j hj hj2
    rw [List.length_append] at hj
    by_cases hlt : j < bs.length
    · rw [List.getElem_append_left hlt]
      have h0 := h.op j hlt hj2
      obtain ⟨cs, hcs⟩ := h.ty bs[j] (List.getElem_mem hlt)
      exact h0.of_block ((hold _ _ _ _ hcs (by decide)).trans hcs.symm)
    · have hje : j = bs.length := by simp at hj; omega
      subst hje
      simp only [List.getElem_append_right (Nat.le_refl _), Nat.sub_self, List.getElem_cons_zero]
      refine ⟨fun k hk c u hu => ?_, (Array.getElem?_eq_some_iff.1 hnew).1⟩
      have hk0 : k = 0 := by simpa using hk
      subst hk0
      simp only [List.getElem_cons_zero] at hu
      have hcl := (List.getElem?_eq_some_iff.1 hu).1
      simp only [World.cell?, Addr.add, Nat.zero_mul, Nat.zero_add, hnew, hca]
      simpa [hcl] using hu
  · intro b hb
    rw [List.mem_append] at hb
    rcases hb with hb | hb
    · obtain ⟨cs, hcs⟩ := h.ty b hb
      exact ⟨cs, hold _ _ _ _ hcs (by decide)⟩
    · simp only [List.mem_singleton] at hb
      subst hb
      exact ⟨_, hnew⟩
  · exact (h.below.trans (hb2.mono hz)).grown hg (Nat.le_trans hz hb2.size) (fun k hk => by have := (h.own.lt k hk).1; omega)
theorem MadeRows.rows {w0 w : World} {rv : Value} {bs : List Nat} {ops : List OpN} (h : MadeRows w0 w rv bs ops) (hl : bs.length = ops.length) (hn : 0 < bs.length) : ∃ gs cap, rv = .slice (some ⟨gs, 0, none⟩) ops.length cap ∧ OneRows w gs bs ops := by
  obtain ⟨hll, h' | ⟨g, cap, cur, hv, hg, hh, hc, _⟩⟩ := id h.own
  · exact absurd h'.2 (by omega)
  · refine ⟨g, cap, by rw [← hl]; exact hv, hl, fun i hi => ?_, h.op, (Array.getElem?_eq_some_iff.1 hh).1⟩
    have := h.own.cells (show rv.ownBlock = some g by rw [hv]; rfl) i (.slice (some ⟨bs[i], 0, none⟩) 1 1) (by simp [hi])
    rw [addr_add] at this
    exact this
theorem evalZ_out (wt : Nat → Bool) : ∀ (ops : List OpN) (X : Regs) (ws : List Int), (∃ o ∈ ops, outK o.kind = true) → evalZ wt ops X ws ≠ .fell
  | [], _, _, h => by obtain ⟨o, ho, _⟩ := h; cases ho
  | o :: os, X, ws, h => by
    by_cases hs : ∃ o ∈ os, outK o.kind = true
    · have ih2 := fun X ws => evalZ_out wt os X ws hs
      obtain ⟨k, d, a, b, imm, n⟩ := o
      cases k <;> simp only [evalZ] <;> (repeat' split) <;> first | exact ih2 _ _ | (intro e; cases e)
    · have ho : outK o.kind = true := by
        obtain ⟨x, hx, hx2⟩ := h
        rcases List.mem_cons.1 hx with rfl | hx
        · exact hx2
        · exact absurd ⟨x, hx, hx2⟩ hs
      obtain ⟨k, d, a, b, imm, n⟩ := o
      cases k <;> simp only [outK] at ho <;> first | (cases ho; done) | (simp only [evalZ]; intro e; cases e)
theorem CodeOK.ends {many : Nat} {ops : List OpN} (h : CodeOK many ops) (wt : Nat → Bool) (X : Regs) (ws : List Int) : evalZ wt ops X ws ≠ .fell := by
  have hn := h.ne
  refine evalZ_out wt ops X ws ⟨ops[ops.length - 1]'(by omega), List.getElem_mem _, ?_⟩
  rw [h.out (ops.length - 1) (by omega)]
  exact decide_eq_true (by omega)
theorem runPost_up {w wr w5 : World} {sb r bw ba bh many : Nat} {ops : List OpN} {s : StF} {ws : List Int} {wt ht : Nat → Bool} {e : Ending} (hs : StB w sb s) (hr : RamM w r bw ba bh ws wt ht) (hb : Below w.heap.size w wr) (hres : Tri wr w.heap.size 51 (.bool false) (.int .i64 0) (.bool false)) (hne : evalZ wt ops (regsOf s) ws ≠ .fell) (h : RunPost wr sb r ba bh many s ops ws wt ht e w5) :
    ∃ (t : Bool) (a : Int), e = .returned (endA t a false) ∧ Tri w5 w.heap.size 51 (.bool false) (.int .i64 0) (.bool false) ∧ RunPost w sb r ba bh many s ops ws wt ht (.returned (endA t a false)) (fill3 w5 w.heap.size (.bool t) (.int .i64 a) (.bool false)) := by
  have l1 := Row.lt hs
  have l2 := hr.lt
  have l3 := hr.watch.lt
  have l4 := hr.hit.lt
  have l5 := (Array.getElem?_eq_some_iff.1 hres).1
  unfold RunPost at h ⊢
  cases hev : evalZ wt ops (regsOf s) ws with
  | fell => exact absurd hev hne
  | trap k =>
    rw [hev] at h
    obtain ⟨h1, h2⟩ := h
    exact ⟨true, (k : Int), h1, (h2.block _ l5).trans hres, rfl, below_fill3 (hb.trans (h2.mono hb.size)) (Nat.le_refl _) _ _ _⟩
  | leave pc X ws' =>
    rw [hev] at h
    obtain ⟨h1, h2, ⟨bw', h3, h4⟩, h5⟩ := h
    have hk7 : Kept (fun k => k = w.heap.size) w5 (fill3 w5 w.heap.size (.bool false) (.int .i64 0) (.bool false)) := ((Kept.set w5 w.heap.size 0 (.bool false)).trans (Kept.set _ w.heap.size 1 (.int .i64 0))).trans (Kept.set _ w.heap.size 2 (.bool false))
    refine ⟨false, 0, h1, (h5.same _ l5 (by omega)).trans hres, rfl, Row.kept h2 hk7 (by omega), ⟨bw', h3.kept hk7 (by omega) (by omega) (by omega) (by omega), by omega⟩, ?_, ?_⟩
    · exact (hb.mono (Nat.zero_le _)).trans (h5.below.trans hk7.below)
    · intro k hk hn
      exact (hk7.same k (Nat.lt_of_lt_of_le hk (Nat.le_trans hb.size h5.below.size)) (by omega)).trans ((h5.same k (Nat.lt_of_lt_of_le hk hb.size) hn).trans (hb.block k hk))
set_option maxHeartbeats 4000000 in
set_option maxRecDepth 100000 in
theorem evalOf_any {w : World} {sb r bw ba bh g cap many : Nat} {ops : List OpN} {s : StF} {ws : List Int} {wt ht : Nat → Bool} (hs : StB w sb s) (h : RamM w r bw ba bh ws wt ht) (ho : OpsAt w g ops) (hc : CodeOK many ops) (hx0 : ∀ k, Reg32 (regsOf s k)) (hcn0 : 0 ≤ s.count) (hcn1 : s.count ≤ 4611686018427387904) :
    Calls Tryz.prog 12 #[.slice (some ⟨g, 0, none⟩) ops.length cap, .int .i64 (many : Int), .pointer (some ⟨sb, 0, none⟩), .pointer (some ⟨r, 0, none⟩)] w fun e w' => RunPost w sb r ba bh many s ops ws wt ht e w' := by
  obtain ⟨iS, hS1, hS2, hS3, hS4⟩ := info_parts Tryz.infoSl
  have HS := Lib.hid hs
  have HR := Lib.hid h
  have HO := Lib.hid ho
  have HC := Lib.hid hc
  have HX0 := Lib.hid hx0
  have l1 : (ops.length : Int) ≤ 100 := by have := hc.len; omega
  have HL1 := Lib.hid l1
  have HCN := Lib.hid (And.intro hcn0 hcn1)
  have HMD : Hid (MadeRows w (w.alloc (.cells #[.bool false, .int .i64 0, .bool false] 51)) (.slice none 0 0) [] ops) := Lib.hid ⟨World.ownsRow_nil _ _ _ _, fun i hi => absurd hi (Nat.not_lt_zero i), (fun b hb => by cases hb), (Below.refl _ _).alloc (Nat.le_refl _) _, heap_alloc_new w _⟩
  clear hs h ho hc hx0 hcn0 hcn1
  go_enter Tryz.func12, Tryz.ntmps12
  go_wp2_with fail
  go_loopw [9, 10] (fun rv iv wr => ∃ (bs : List Nat) (va : Option Addr) (vc : Nat), bs.length ≤ ops.length ∧ rv = .slice va bs.length vc ∧ iv = .int .i64 (bs.length : Int) ∧ Hid (MadeRows w wr (.slice va bs.length vc) bs ops)) (fun rv iv _ => ops.length - (intOf iv).toNat)
  case atStart => exact ⟨[], none, 0, Nat.zero_le _, rfl, rfl, HMD⟩
  case round =>
    obtain ⟨bs, va, vc, hj, rfl, rfl, HM⟩ := hrel
    by_cases hlt : bs.length < ops.length
    · have hltI : (bs.length : Int) < (ops.length : Int) := by omega
      obtain ⟨c0, c1, c2, c3, c4, c5⟩ := OpsAt.cells (HO.out.below HM.out.below HO.out.lt) bs.length hlt
      have HLT := Lib.hid hlt
      have HCA : Hid (#[.string (bsl ops[bs.length].kind.text), .int .i64 (ops[bs.length].d : Int), .int .i64 (ops[bs.length].a : Int), .int .i64 ops[bs.length].b, .int .u32 ops[bs.length].imm, .int .i64 (ops[bs.length].at' : Int)] = (opC ops[bs.length]).toArray) := Lib.hid rfl
      generalize bsl (ops[bs.length]'hlt).kind.text = o0 at *
      generalize ((ops[bs.length]'hlt).d : Int) = o1 at *
      generalize ((ops[bs.length]'hlt).a : Int) = o2 at *
      generalize (ops[bs.length]'hlt).b = o3 at *
      generalize (ops[bs.length]'hlt).imm = o4 at *
      generalize ((ops[bs.length]'hlt).at' : Int) = o5 at *
      have hsz := Nat.le_trans (Nat.succ_le_of_lt (Array.getElem?_eq_some_iff.1 HM.out.res).1) (Nat.le_refl _)
      clear hlt
      go_wp2_with (at_builtin; refine wpList_append_own _ rfl (.tmp 23) (.tmp 25) 90 rfl (w.heap.size + 1) 32 iS (.slice none 0 0) 1 24 Tryz.underlying90 hS1 hS2 hS3 hS4 rfl (by decide) _ bs.length _ rfl ((HM.out.own.alloc _).alloc _) ⟨wr.heap.size + 1, 0, none⟩ 1 1 [.slice (some ⟨wr.heap.size, 0, none⟩) 1 1] rfl rfl (one_new1 _ _ _ _ (by simp)) (by simp [Value.oneCell']) (by unfold maxLen; have := HL1.out; have := HLT.out; omega) (by have := HL1.out; have := HLT.out; omega) (by simp; omega) ?_)
      intro v5 w5 hown5 hgr5 _
      have HM5 := Lib.hid (HM.out.step HLT.out HCA.out hown5 hgr5)
      obtain ⟨va', vc', hv5⟩ : ∃ va' vc', v5 = .slice va' (bs.length + 1) vc' := by
        rcases Joins.ownsRow_forms hown5 with ⟨_, hz⟩ | ⟨g, cap, hv⟩
        · exact absurd hz (by omega)
        · exact ⟨_, _, hv⟩
      subst hv5
      clear hown5 hgr5 c0 c1 c2 c3 c4 c5
      go_wp2
      have hbl : (bs ++ [wr.heap.size]).length = bs.length + 1 := by simp
      refine ⟨⟨bs ++ [wr.heap.size], va', vc', by rw [hbl]; have := HLT.out; omega, by rw [hbl], by rw [hbl]; go_num, by rw [hbl]; exact HM5⟩, ?_⟩
      simp [intOf]
      have := HLT.out
      omega
    · have he : bs.length = ops.length := by omega
      have hn0 : 0 < bs.length := by have := HC.out.ne; omega
      obtain ⟨gs, cp, hrv, hrows⟩ := HM.out.rows he hn0
      have HB0 := HM.out.below
      have HRUN := Lib.hid (runOf_any (gs := gs) (cap := cp) (HS.out.of_block (HB0.block sb (Row.lt HS.out))) (HR.out.below HB0) hrows HC.out HX0.out HCN.out.1 HCN.out.2)
      have hltI : decide ((bs.length : Int) < (ops.length : Int)) = false := decide_eq_false (by omega)
      rw [hrv]
      clear hrows HB0 hn0
      go_wp2_with fail
      refine HRUN.out.mono ?_
      intro e w5 hpost
      obtain ⟨t, a, rfl, htri, hrp⟩ := runPost_up HS.out HR.out HM.out.below HM.out.res (HC.out.ends _ _ _) hpost
      have HRP := Lib.hid hrp
      have hF := Tri.fill htri (.bool t) (.int .i64 a) (.bool false)
      obtain ⟨t0, t1, t2, t3, t4, t5⟩ := Tri.cells htri
      clear hrp hpost htri
      go_wp2
      change bodyPost _ _ _ _ _ (fill3 w5 w.heap.size (.bool t) (.int .i64 a) (.bool false))
      clear t0 t1 t2 t3 t4 t5
      generalize fill3 w5 w.heap.size (.bool t) (.int .i64 a) (.bool false) = A7 at *
      obtain ⟨t0, t1, t2, _⟩ := Tri.cells hF
      exact bodyPost_ret (v := endA t a false) (by simp [results, Tryz.results12, go_sem, t0, t1, t2]) rfl HRP.out
end Go.Proofs.YtadoaldnjnkhgaaGreatDoor
namespace Go.Proofs.YtadoaldnjnkhgaaGreatDoor
open Go.RowKit
section
variable {x : Nat → Int} {hi lo pc0 nx st ca ep ba co ct wa p : Int} {sl : Bool}
set_option maxHeartbeats 4000000 in
set_option maxRecDepth 100000 in
theorem longPlace_any {w : World} {a : Option Addr} {n c : Nat} :
    Calls Tryz.prog 5 #[.agg #[.int .u32 (x 0), .int .u32 (x 1), .int .u32 (x 2), .int .u32 (x 3), .int .u32 (x 4), .int .u32 (x 5), .int .u32 (x 6), .int .u32 (x 7), .int .u32 (x 8), .int .u32 (x 9), .int .u32 (x 10), .int .u32 (x 11), .int .u32 (x 12), .int .u32 (x 13), .int .u32 (x 14), .int .u32 (x 15), .int .u32 (x 16), .int .u32 (x 17), .int .u32 (x 18), .int .u32 (x 19), .int .u32 (x 20), .int .u32 (x 21), .int .u32 (x 22), .int .u32 (x 23), .int .u32 (x 24), .int .u32 (x 25), .int .u32 (x 26), .int .u32 (x 27), .int .u32 (x 28), .int .u32 (x 29), .int .u32 (x 30), .int .u32 (x 31), .int .u32 hi, .int .u32 lo, .int .u32 pc0, .int .u32 nx, .bool sl, .int .u32 st, .int .u32 ca, .int .u32 ep, .int .u32 ba, .int .u32 co, .int .i64 ct, .slice a n c, .int .i64 wa]] w fun e w' => e = .returned (.bool (decide (200 < n) || decide (ct < 0) || decide (1099511627776 < ct))) ∧ Below w.heap.size w w' := by
  have hb := (Below.refl w.heap.size w).alloc (Nat.le_refl _) (.cells #[.int .u32 (x 0), .int .u32 (x 1), .int .u32 (x 2), .int .u32 (x 3), .int .u32 (x 4), .int .u32 (x 5), .int .u32 (x 6), .int .u32 (x 7), .int .u32 (x 8), .int .u32 (x 9), .int .u32 (x 10), .int .u32 (x 11), .int .u32 (x 12), .int .u32 (x 13), .int .u32 (x 14), .int .u32 (x 15), .int .u32 (x 16), .int .u32 (x 17), .int .u32 (x 18), .int .u32 (x 19), .int .u32 (x 20), .int .u32 (x 21), .int .u32 (x 22), .int .u32 (x 23), .int .u32 (x 24), .int .u32 (x 25), .int .u32 (x 26), .int .u32 (x 27), .int .u32 (x 28), .int .u32 (x 29), .int .u32 (x 30), .int .u32 (x 31), .int .u32 hi, .int .u32 lo, .int .u32 pc0, .int .u32 nx, .bool sl, .int .u32 st, .int .u32 ca, .int .u32 ep, .int .u32 ba, .int .u32 co, .int .i64 ct, .slice a n c, .int .i64 wa] 29)
  have HB := Lib.hid hb
  clear hb
  by_cases h1 : 200 < n
  · have e1 : decide ((200 : Int) < (n : Int)) = true := decide_eq_true (by omega)
    have hv : (decide (200 < n) || decide (ct < 0) || decide (1099511627776 < ct)) = true := by rw [decide_eq_true h1]; rfl
    rw [hv]
    have e2 : (200 : Int) < (n : Int) := by omega
    clear h1 hv
    go_enter Tryz.func5, Tryz.ntmps5
    go_wp2
    go_ret
    exact ⟨rfl, HB.out⟩
  · have e1 : decide ((200 : Int) < (n : Int)) = false := decide_eq_false (by omega)
    have e2 : decide (200 < n) = false := decide_eq_false h1
    rw [e2]
    clear h1 e2
    cases h2 : decide (ct < 0) with
    | true =>
      have e3 : ct < 0 := of_decide_eq_true h2
      go_enter Tryz.func5, Tryz.ntmps5
      go_wp2
      go_ret
      exact ⟨rfl, HB.out⟩
    | false =>
      cases h3 : decide (1099511627776 < ct) with
      | true =>
        go_enter Tryz.func5, Tryz.ntmps5
        go_wp2
        go_ret
        exact ⟨rfl, HB.out⟩
      | false =>
        go_enter Tryz.func5, Tryz.ntmps5
        go_wp2
        go_ret
        exact ⟨rfl, HB.out⟩
end
end Go.Proofs.YtadoaldnjnkhgaaGreatDoor
namespace Go.Proofs.YtadoaldnjnkhgaaGreatDoor
open Go.RowKit
section
variable {x : Nat → Int} {hi lo pc0 nx st ca ep ba co ct wa p : Int} {sl : Bool}
set_option maxHeartbeats 8000000 in
set_option maxRecDepth 100000 in
theorem model_any {w : World} {a : Option Addr} {n c : Nat} {us : List Int} (hN : ∀ wx, Below w.heap.size w wx → Calls Tryz.prog 31 #[.slice a n c] wx fun e w' => MadeR wx (padW us) (fun _ => false) (fun _ => false) e w') :
    Calls Tryz.prog 11 #[.agg #[.int .u32 (x 0), .int .u32 (x 1), .int .u32 (x 2), .int .u32 (x 3), .int .u32 (x 4), .int .u32 (x 5), .int .u32 (x 6), .int .u32 (x 7), .int .u32 (x 8), .int .u32 (x 9), .int .u32 (x 10), .int .u32 (x 11), .int .u32 (x 12), .int .u32 (x 13), .int .u32 (x 14), .int .u32 (x 15), .int .u32 (x 16), .int .u32 (x 17), .int .u32 (x 18), .int .u32 (x 19), .int .u32 (x 20), .int .u32 (x 21), .int .u32 (x 22), .int .u32 (x 23), .int .u32 (x 24), .int .u32 (x 25), .int .u32 (x 26), .int .u32 (x 27), .int .u32 (x 28), .int .u32 (x 29), .int .u32 (x 30), .int .u32 (x 31), .int .u32 hi, .int .u32 lo, .int .u32 pc0, .int .u32 nx, .bool sl, .int .u32 st, .int .u32 ca, .int .u32 ep, .int .u32 ba, .int .u32 co, .int .i64 ct, .slice a n c, .int .i64 wa]] w fun e w' => MadeR w (padW us) (fun k => decide (wa = (k : Int))) (fun _ => false) e w' := by
  have hb := (Below.refl w.heap.size w).alloc (Nat.le_refl _) (.cells #[.int .u32 (x 0), .int .u32 (x 1), .int .u32 (x 2), .int .u32 (x 3), .int .u32 (x 4), .int .u32 (x 5), .int .u32 (x 6), .int .u32 (x 7), .int .u32 (x 8), .int .u32 (x 9), .int .u32 (x 10), .int .u32 (x 11), .int .u32 (x 12), .int .u32 (x 13), .int .u32 (x 14), .int .u32 (x 15), .int .u32 (x 16), .int .u32 (x 17), .int .u32 (x 18), .int .u32 (x 19), .int .u32 (x 20), .int .u32 (x 21), .int .u32 (x 22), .int .u32 (x 23), .int .u32 (x 24), .int .u32 (x 25), .int .u32 (x 26), .int .u32 (x 27), .int .u32 (x 28), .int .u32 (x 29), .int .u32 (x 30), .int .u32 (x 31), .int .u32 hi, .int .u32 lo, .int .u32 pc0, .int .u32 nx, .bool sl, .int .u32 st, .int .u32 ca, .int .u32 ep, .int .u32 ba, .int .u32 co, .int .i64 ct, .slice a n c, .int .i64 wa] 29)
  have HB := Lib.hid hb
  have HN := Lib.hid (hN _ hb)
  have HWA : Hid ((w.alloc (.cells #[.int .u32 (x 0), .int .u32 (x 1), .int .u32 (x 2), .int .u32 (x 3), .int .u32 (x 4), .int .u32 (x 5), .int .u32 (x 6), .int .u32 (x 7), .int .u32 (x 8), .int .u32 (x 9), .int .u32 (x 10), .int .u32 (x 11), .int .u32 (x 12), .int .u32 (x 13), .int .u32 (x 14), .int .u32 (x 15), .int .u32 (x 16), .int .u32 (x 17), .int .u32 (x 18), .int .u32 (x 19), .int .u32 (x 20), .int .u32 (x 21), .int .u32 (x 22), .int .u32 (x 23), .int .u32 (x 24), .int .u32 (x 25), .int .u32 (x 26), .int .u32 (x 27), .int .u32 (x 28), .int .u32 (x 29), .int .u32 (x 30), .int .u32 (x 31), .int .u32 hi, .int .u32 lo, .int .u32 pc0, .int .u32 nx, .bool sl, .int .u32 st, .int .u32 ca, .int .u32 ep, .int .u32 ba, .int .u32 co, .int .i64 ct, .slice a n c, .int .i64 wa] 29)).cell? ⟨w.heap.size, 44, none⟩ = some (.int .i64 wa)) := by
    refine Lib.hid ?_
    simp only [World.cell?, heap_alloc_new]
    rfl
  have HLT : Hid (w.heap.size < (w.alloc (.cells #[.int .u32 (x 0), .int .u32 (x 1), .int .u32 (x 2), .int .u32 (x 3), .int .u32 (x 4), .int .u32 (x 5), .int .u32 (x 6), .int .u32 (x 7), .int .u32 (x 8), .int .u32 (x 9), .int .u32 (x 10), .int .u32 (x 11), .int .u32 (x 12), .int .u32 (x 13), .int .u32 (x 14), .int .u32 (x 15), .int .u32 (x 16), .int .u32 (x 17), .int .u32 (x 18), .int .u32 (x 19), .int .u32 (x 20), .int .u32 (x 21), .int .u32 (x 22), .int .u32 (x 23), .int .u32 (x 24), .int .u32 (x 25), .int .u32 (x 26), .int .u32 (x 27), .int .u32 (x 28), .int .u32 (x 29), .int .u32 (x 30), .int .u32 (x 31), .int .u32 hi, .int .u32 lo, .int .u32 pc0, .int .u32 nx, .bool sl, .int .u32 st, .int .u32 ca, .int .u32 ep, .int .u32 ba, .int .u32 co, .int .i64 ct, .slice a n c, .int .i64 wa] 29)).heap.size) := Lib.hid (by simp)
  clear hb hN
  go_enter Tryz.func11, Tryz.ntmps11
  go_wp2_with fail
  generalize w.alloc (.cells #[.int .u32 (x 0), .int .u32 (x 1), .int .u32 (x 2), .int .u32 (x 3), .int .u32 (x 4), .int .u32 (x 5), .int .u32 (x 6), .int .u32 (x 7), .int .u32 (x 8), .int .u32 (x 9), .int .u32 (x 10), .int .u32 (x 11), .int .u32 (x 12), .int .u32 (x 13), .int .u32 (x 14), .int .u32 (x 15), .int .u32 (x 16), .int .u32 (x 17), .int .u32 (x 18), .int .u32 (x 19), .int .u32 (x 20), .int .u32 (x 21), .int .u32 (x 22), .int .u32 (x 23), .int .u32 (x 24), .int .u32 (x 25), .int .u32 (x 26), .int .u32 (x 27), .int .u32 (x 28), .int .u32 (x 29), .int .u32 (x 30), .int .u32 (x 31), .int .u32 hi, .int .u32 lo, .int .u32 pc0, .int .u32 nx, .bool sl, .int .u32 st, .int .u32 ca, .int .u32 ep, .int .u32 ba, .int .u32 co, .int .i64 ct, .slice a n c, .int .i64 wa] 29) = W at *
  refine HN.out.mono ?_
  intro e w1 hm
  obtain ⟨r, bw, bx, bh, rfl, hR, hb1, x1, x2, x3, x4⟩ := hm
  have HR := Lib.hid hR
  have HB1 := Lib.hid (HB.out.trans (hb1.mono HB.out.size))
  have HX := Lib.hid (And.intro x1 (And.intro x2 (And.intro x3 x4)))
  have HSZ := Lib.hid HB.out.size
  have hwa := (hb1.cell (p := ⟨w.heap.size, 44, none⟩) HLT.out).trans HWA.out
  clear hR hb1 x1 x2 x3 x4
  by_cases h0 : 0 ≤ wa
  · have e0 : decide (0 ≤ wa) = true := decide_eq_true h0
    by_cases h1 : wa < 64
    · obtain ⟨k, rfl⟩ : ∃ k : Nat, wa = (k : Int) := ⟨wa.toNat, by omega⟩
      have hk : k < 64 := by omega
      obtain ⟨c0, c1, c2⟩ := HR.out.cells
      have hw := HR.out.watch.cell hk
      have hf := HR.out.watch.free k
      unfold boolsG at hw
      have HS := Lib.hid ((HR.out.drew.setWatch k true).eqWatch (g := fun j => decide ((k : Int) = (j : Int))) (fun j _ => by by_cases e : j = k <;> simp [e]; omega))
      have HB2 := Lib.hid (HB1.out.drew.setCell (p := ⟨bx, k, none⟩) (show w.heap.size ≤ bx by have := HX.out.2.2.1; have := HSZ.out; omega) (.bool true))
      have HK := Lib.hid hk
      go_wp2_with fail
      go_still_tail 7, (by kernel_rfl)
      change wpList _ _ _ _ _ w1.drew
      have hwd : w1.drew.cell? ⟨bx, k, none⟩ = some _ := hw
      have hfd : w1.drew.frozen? ⟨bx, k, none⟩ = false := hf
      generalize w1.drew = wd at *
      clear hw hf c0 c1 c2
      go_wp2
      go_ret
      exact ⟨r, bw, bx, bh, rfl, HS.out, HB2.out, by have := HX.out.1; have := HSZ.out; omega, by have := HX.out.2.1; have := HSZ.out; omega, by have := HX.out.2.2.1; have := HSZ.out; omega, by have := HX.out.2.2.2; have := HSZ.out; omega⟩
    · have e1 : decide (wa < 64) = false := decide_eq_false h1
      have HS := Lib.hid (HR.out.eqWatch (g := fun j => decide (wa = (j : Int))) (fun j hj => by simp; omega))
      go_wp2
      go_ret
      exact ⟨r, bw, bx, bh, rfl, HS.out, HB1.out, by have := HX.out.1; have := HSZ.out; omega, by have := HX.out.2.1; have := HSZ.out; omega, by have := HX.out.2.2.1; have := HSZ.out; omega, by have := HX.out.2.2.2; have := HSZ.out; omega⟩
  · have e0 : decide (0 ≤ wa) = false := decide_eq_false h0
    have HS := Lib.hid (HR.out.eqWatch (g := fun j => decide (wa = (j : Int))) (fun j hj => by simp; omega))
    go_wp2
    go_ret
    exact ⟨r, bw, bx, bh, rfl, HS.out, HB1.out, by have := HX.out.1; have := HSZ.out; omega, by have := HX.out.2.1; have := HSZ.out; omega, by have := HX.out.2.2.1; have := HSZ.out; omega, by have := HX.out.2.2.2; have := HSZ.out; omega⟩
end
end Go.Proofs.YtadoaldnjnkhgaaGreatDoor
namespace Go.Proofs.YtadoaldnjnkhgaaGreatDoor
open Go.RowKit
section
variable {P : Program}
theorem eqItems_self (w : World) (d : Nat) (e : TypeId) (c : Nat) (xs : Array Value) : ∀ is : List Nat, (∀ i ∈ is, ∃ a, (part e xs (i * c)).run P w = .ok a w ∧ (Op.equalIn d e a a).run P w = .ok true w) → (Op.eqItems d e c xs xs is).run P w = .ok true w
  | [], _ => by simp [Op.eqItems]
  | i :: is, h => by
    obtain ⟨a, h1, h2⟩ := h i (List.mem_cons_self ..)
    simp only [Op.eqItems, Sem.run_bind, h1, h2, Result.andThen_ok]
    simpa using eqItems_self w d e c xs is (fun j hj => h j (List.mem_cons_of_mem _ hj))
theorem eqFields_self (w : World) (d : Nat) (xs : Array Value) : ∀ fs : List Field, (∀ f ∈ fs, ∃ a, (part f.type xs f.offset).run P w = .ok a w ∧ (Op.equalIn d f.type a a).run P w = .ok true w) → (Op.eqFields d xs xs fs).run P w = .ok true w
  | [], _ => by simp [Op.eqFields]
  | f :: fs, h => by
    obtain ⟨a, h1, h2⟩ := h f (List.mem_cons_self ..)
    have ih := eqFields_self w d xs fs (fun j hj => h j (List.mem_cons_of_mem _ hj))
    unfold Op.eqFields
    split
    · simp only [Sem.run_bind, h1, h2, Result.andThen_ok]
      simpa using ih
    · exact ih
end
def fieldOK (f : Field) : Bool := (f.offset == 0 && f.type == 24) || (f.type == 22 && decide (32 ≤ f.offset) && decide (f.offset < 42) && f.offset != 36) || (f.type == 4 && f.offset == 36) || (f.type == 3 && f.offset == 42)
theorem fieldsSt : (Tryz.prog.fieldsOf 26).toList.all fieldOK = true := by kernel_rfl
theorem structSt : Tryz.prog.underlying 26 = some (.struct (Tryz.prog.fieldsOf 26)) := by kernel_rfl
theorem heldSt : Tryz.prog.stoodInHeld 26 = false := by kernel_rfl
theorem infoArr : ∃ i, Tryz.prog.info? 22 = some i := info_of_underlying Tryz.underlying22
theorem cellsU : Tryz.prog.cellsOf 22 = 1 := by kernel_rfl
theorem plainU : Tryz.prog.plainKey 22 = true := by kernel_rfl
theorem plainB : Tryz.prog.plainKey 4 = true := by kernel_rfl
theorem plainI : Tryz.prog.plainKey 3 = true := by kernel_rfl
theorem infoR32 : (Tryz.prog.info? 24).map (·.size) = some 32 := by kernel_rfl
theorem stG_u (s : StF) {k : Nat} (h1 : 32 ≤ k) (h2 : k < 42) (h3 : k ≠ 36) : ∃ z, stG s k = .int .u32 z := by
  have : k = 32 ∨ k = 33 ∨ k = 34 ∨ k = 35 ∨ k = 37 ∨ k = 38 ∨ k = 39 ∨ k = 40 ∨ k = 41 := by omega
  rcases this with rfl | rfl | rfl | rfl | rfl | rfl | rfl | rfl | rfl <;> exact ⟨_, rfl⟩
theorem stL_get (s : StF) {k : Nat} (hk : k < 43) : (stL s).toArray[k]? = some (stG s k) := by
  rw [List.getElem?_toArray]
  exact stL_at s hk
theorem eqlSt (s : StF) (w : World) : (Op.equalIn 10000 26 (.agg (stL s).toArray) (.agg (stL s).toArray)).run Tryz.prog w = .ok true w := by
  rw [show (10000 : Nat) = 9999 + 1 from rfl, run_equalIn_struct w 9999 26 _ _ structSt heldSt]
  refine eqFields_self w 9999 _ _ (fun f hf => ?_)
  have h := List.all_eq_true.1 fieldsSt f hf
  unfold fieldOK at h
  simp only [Bool.or_eq_true, Bool.and_eq_true, beq_iff_eq, bne_iff_ne, decide_eq_true_eq] at h
  rcases h with ((⟨e1, e2⟩ | ⟨⟨⟨e1, e2⟩, e3⟩, e4⟩) | ⟨e1, e2⟩) | ⟨e1, e2⟩
  · rw [e1, e2]
    obtain ⟨i, hi⟩ := infoArr
    have hsz : (Tryz.prog.info? 24).map (·.size) = some 32 := infoR32
    obtain ⟨j, hj⟩ : ∃ j, Tryz.prog.info? 24 = some j := by
      cases hq : Tryz.prog.info? 24 with
      | none => rw [hq] at hsz; cases hsz
      | some j => exact ⟨j, rfl⟩
    have hjs : j.size = 32 := by rw [hj] at hsz; simpa using hsz
    refine ⟨.agg ((stL s).toArray.extract 0 32), ?_, ?_⟩
    · simp [part, isAgg, run_underlying Tryz.underlying24, run_sizeOf w hj, Program.cellsOf, hj, hjs]
    · rw [show (9999 : Nat) = 9998 + 1 from rfl, run_equalIn_array w 9998 _ _ Tryz.underlying24 hi]
      refine eqItems_self w 9998 _ _ _ _ (fun k hk => ?_)
      have hk2 : k < 32 := List.mem_range.1 hk
      have hv : ((stL s).toArray.extract 0 32)[k * Tryz.prog.cellsOf 22]? = some (.int .u32 (s.r k)) := by
        rw [cellsU, Nat.mul_one, Array.getElem?_extract, if_pos (by simp [stL_len]; omega), Nat.zero_add, stL_get s (by omega)]
        unfold stG
        rw [if_pos hk2]
      exact ⟨_, run_part_plain w plainU hv, by rw [show (9998 : Nat) = 9997 + 1 from rfl, run_equalIn_int w 9997 _ _ _ _ _ Tryz.underlying22]; simp⟩
  · obtain ⟨z, hz⟩ := stG_u s e2 e3 e4
    rw [e1]
    exact ⟨_, run_part_plain w plainU (stL_get s (by omega)), by rw [hz, show (9999 : Nat) = 9998 + 1 from rfl, run_equalIn_int w 9998 _ _ _ _ _ Tryz.underlying22]; simp⟩
  · rw [e1, e2]
    exact ⟨_, run_part_plain w plainB (stL_get s (by omega)), by rw [show stG s 36 = .bool s.slot from rfl, show (9999 : Nat) = 9998 + 1 from rfl, run_equalIn_bool' w 9998 _ _ _ Tryz.underlying4]; simp⟩
  · rw [e1, e2]
    exact ⟨_, run_part_plain w plainI (stL_get s (by omega)), by rw [show stG s 42 = .int .i64 s.count from rfl, show (9999 : Nat) = 9998 + 1 from rfl, run_equalIn_int w 9998 _ _ _ _ _ Tryz.underlying3]; simp⟩
end Go.Proofs.YtadoaldnjnkhgaaGreatDoor
namespace Go.Proofs.YtadoaldnjnkhgaaGreatDoor
open Go.RowKit
def ArgW (w : World) (v : Value) (zs : List Int) : Prop :=
  ∃ p cap, v = .slice p zs.length cap ∧ ∀ j (h : j < zs.length), ∃ a, p = some a ∧ w.cell? (a.add j) = some (.int .u32 zs[j])
theorem ArgW.below {w w' : World} {v : Value} {zs : List Int} (h : ArgW w v zs) (hb : Below w.heap.size w w') : ArgW w' v zs := by
  obtain ⟨p, cap, h1, h2⟩ := h
  refine ⟨p, cap, h1, fun j hj => ?_⟩
  obtain ⟨a, e, hc⟩ := h2 j hj
  exact ⟨a, e, (hb.cell (World.block_lt_of_cell? _ _ hc)).trans hc⟩
set_option maxHeartbeats 1000000 in
theorem alike_same (zs : List Int) (hl : zs.length ≤ 5000) (v1 v2 : Value) (w : World) (h1 : ArgW w v1 zs) (h2 : ArgW w v2 zs) :
    Calls Tryz.prog 14 #[v1, v2] w fun e w' => e = .returned (.int .i64 1) ∧ ∃ k, w' = w.drewN k := by
  obtain ⟨p, cap, rfl, hc1⟩ := h1
  obtain ⟨q, cap2, rfl, hc2⟩ := h2
  have H1 := Lib.hid hc1
  have H2 := Lib.hid hc2
  clear hc1 hc2
  go_enter Tryz.func14, Tryz.ntmps14
  go_wp2_with fail
  go_loopw [5] (fun kv wr => ∃ j k : Nat, j ≤ zs.length ∧ kv = .int .i64 (j : Int) ∧ wr = w.drewN k) (fun kv _ => zs.length - (intOf kv).toNat)
  case atStart => exact ⟨0, 0, Nat.zero_le _, rfl, by simp [World.drewN_zero]⟩
  case round =>
    obtain ⟨j, k, hj, rfl, rfl⟩ := hrel
    by_cases hlt : j < zs.length
    · obtain ⟨a, rfl, ha⟩ := H1.out j hlt
      obtain ⟨b, rfl, hb⟩ := H2.out j hlt
      have hjl : (j : Int) < (zs.length : Int) := by go_light; omega
      have ha2 : (w.drewN k).cell? (a.add j) = some (.int .u32 zs[j]) := ha
      have hb2 : (w.drewN k).cell? (b.add j) = some (.int .u32 zs[j]) := hb
      generalize zs[j] = z at *
      have hz := Tryz.underlying22
      go_wp2_with fail
      go_quiet (fail)
      go_wp2
      go_roundw
      case rel => exact ⟨j + 1, _, hlt, by go_num, rfl⟩
      case measure => go_light; simp [intOf]; omega
    · have hje : j = zs.length := by go_light; omega
      subst hje
      clear hlt
      go_wp2
      go_ret
      exact ⟨rfl, _, rfl⟩
theorem RamM.argW {w : World} {r bw ba bh : Nat} {ws : List Int} {wt ht : Nat → Bool} (h : RamM w r bw ba bh ws wt ht) : ArgW w (.slice (some ⟨bw, 0, none⟩) 4096 4096) ws := by
  refine ⟨some ⟨bw, 0, none⟩, 4096, by rw [h.len], fun j hj => ⟨_, rfl, ?_⟩⟩
  have := h.word (k := j) (by have := h.len; omega)
  rw [addr_add, this, List.getD_eq_getElem?_getD, List.getElem?_eq_getElem hj]
  rfl
theorem alike_rams {w : World} {r bw ba bh r2 bw2 ba2 bh2 : Nat} {ws : List Int} {wt ht wt2 ht2 : Nat → Bool} (h : RamM w r bw ba bh ws wt ht) (h2 : RamM w r2 bw2 ba2 bh2 ws wt2 ht2) :
    Calls Tryz.prog 14 #[.slice (some ⟨bw, 0, none⟩) 4096 4096, .slice (some ⟨bw2, 0, none⟩) 4096 4096] w fun e w' => e = .returned (.int .i64 1) ∧ ∃ k, w' = w.drewN k :=
  alike_same ws (by rw [h.len]; decide) _ _ w h.argW h2.argW
end Go.Proofs.YtadoaldnjnkhgaaGreatDoor
