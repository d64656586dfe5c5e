/- The walk of the document's RunOf over rows of one op each, third part. Conditions: as each theorem states. -/
import Derived.Test.YtadoaldnjnkhgaaGreatDoorQ47
import Derived.StillTailTactics
set_option linter.unusedVariables false
set_option linter.unusedSimpArgs false
namespace Go.Proofs.YtadoaldnjnkhgaaGreatDoor
open Go.RowKit
theorem stG_eq {r r' : Regs} {hi lo pc next : Int} {slot : Bool} {status cause epc bad compare count : Int} (h : ∀ k, k < 32 → r k = r' k) (k : Nat) : stG ⟨r, hi, lo, pc, next, slot, status, cause, epc, bad, compare, count⟩ k = stG ⟨r', hi, lo, pc, next, slot, status, cause, epc, bad, compare, count⟩ k := by
  unfold stG
  by_cases e : k < 32
  · rw [if_pos e, if_pos e]
    simp only
    rw [h k e]
  · rw [if_neg e, if_neg e]
theorem StB.putR {w : World} {b : Nat} {s s' : StF} (h : StB w b s) (k : Nat) (v : Value) (hv : stG s' k = v) (ho : ∀ j, j < 43 → j ≠ k → stG s' j = stG s j) : StB (w.setCell ⟨b, k, none⟩ v) b s' := by
  refine (Row.set h k v).eqv (fun j hj => ?_)
  by_cases e : j = k
  · rw [if_pos e, e, hv]
  · rw [if_neg e, ho j hj e]
theorem StB.setRegR {w : World} {b : Nat} {s : StF} (h : StB w b s) {k : Nat} (hk : k < 32) (v : Int) : StB (w.setCell ⟨b, k, none⟩ (.int .u32 v)) b { s with r := updR s.r k v } := by
  refine StB.putR h k _ ?_ (fun j hj hne => ?_)
  · unfold stG
    rw [if_pos hk]
    simp only
    rw [updR_same]
  · unfold stG
    by_cases e : j < 32
    · rw [if_pos e, if_pos e]
      simp only
      rw [updR_other _ _ hne]
    · rw [if_neg e, if_neg e]
theorem stR_step (s : StF) (X : Regs) {j : Nat} (j0 : 1 ≤ j) (k : Nat) : updR (fun k => if 1 ≤ k ∧ k < j then X k else s.r k) j (X j) k = if 1 ≤ k ∧ k < j + 1 then X k else s.r k := by
  unfold updR
  by_cases e : k = j
  · subst e
    rw [if_pos rfl, if_pos ⟨j0, by omega⟩]
  · rw [if_neg e]
    simp only
    by_cases h : 1 ≤ k ∧ k < j
    · rw [if_pos h, if_pos ⟨h.1, by omega⟩]
    · rw [if_neg h, if_neg (by omega)]
theorem RunS.st_ne {w0 w : World} {eb mb x xw xa xh sb r bw ba bh gs : Nat} {bs : List Nat} {ops : List OpN} {s : StF} {X : Regs} {ws ws0 : List Int} {wt ht ht0 : Nat → Bool} (h : RunS w0 w eb mb x xw xa xh sb r bw ba bh gs bs ops s X ws ws0 wt ht ht0) : sb ≠ r ∧ sb ≠ bw ∧ sb ≠ ba ∧ sb ≠ bh ∧ True := by
  obtain ⟨c1, a1, _⟩ := h.st.ex
  obtain ⟨c2, a2, _⟩ := h.r0.words.ex
  obtain ⟨c3, a3, _⟩ := h.r0.watch.ex
  obtain ⟨c4, a4, _⟩ := h.r0.hit.ex
  exact ⟨ne_type a1 h.r0.blk (by decide), ne_type a1 a2 (by decide), ne_type a1 a3 (by decide), ne_type a1 a4 (by decide), trivial⟩
theorem writeD_lt {o : OpN} (h : opG o) : writeD o < 64 := by
  obtain ⟨k, d, a, b, imm, n⟩ := o
  cases k
  all_goals first
    | (show 0 < 64; decide)
    | exact h.2.1
theorem res_store_parts {wt : Nat → Bool} {o : OpN} {X : Regs} {ws : List Int} {v p : Int} {l : Bool} (hk : o.kind = .store) (h : resZ wt o X ws = (v, p, false, l)) : reach p o.d = true ∧ 0 ≤ p ∧ p < 4294967296 := by
  unfold resZ at h
  rw [hk] at h
  simp only at h
  split at h
  · next hr =>
    simp only [Prod.mk.injEq] at h
    obtain ⟨_, rfl, _, _⟩ := h
    exact ⟨hr, by omega, by omega⟩
  · simp only [Prod.mk.injEq] at h
    exact absurd h.2.2.1 (by decide)
theorem grown_none {a b : World} (h : a.grownBy b none) : Below a.heap.size a b := ⟨h.os, h.tape, h.output, h.size, fun k hk => h.block k hk (by simp)⟩
theorem Six6.cells {w : World} {b : Nat} {t : TypeId} {a0 a1 a2 a3 a4 a5 : Value} (h : w.heap[b]? = some (.cells #[a0, a1, a2, a3, a4, a5] t (0, 0))) : w.cell? ⟨b, 0, none⟩ = some a0 ∧ w.cell? ⟨b, 1, none⟩ = some a1 ∧ w.cell? ⟨b, 2, none⟩ = some a2 ∧ w.cell? ⟨b, 3, none⟩ = some a3 ∧ w.cell? ⟨b, 4, none⟩ = some a4 ∧ w.cell? ⟨b, 5, none⟩ = some a5 := by
  refine ⟨?_, ?_, ?_, ?_, ?_, ?_⟩ <;> simp [World.cell?, h]
set_option maxHeartbeats 4000000 in
set_option maxRecDepth 100000 in
theorem runOf_any {w : World} {sb r bw ba bh gs cap many : Nat} {bs : List Nat} {ops : List OpN} {s : StF} {ws : List Int} {wt ht : Nat → Bool} (hs : StB w sb s) (h : RamM w r bw ba bh ws wt ht) (hr : OneRows w gs bs ops) (hc : CodeOK many ops) (hx0 : ∀ k, Reg32 (regsOf s k)) (hcn0 : 0 ≤ s.count) (hcn1 : s.count ≤ 4611686018427387904) :
    Calls Tryz.prog 32 #[.slice (some ⟨gs, 0, none⟩) ops.length cap, .int .i64 (many : Int), .pointer (some ⟨sb, 0, none⟩), .pointer (some ⟨r, 0, none⟩)] w fun e w' => RunPost w sb r ba bh many s ops ws wt ht e w' := by
  have hAl := (Below.refl w.heap.size w).alloc (Nat.le_refl _) (.cells #[.bool false, .int .i64 0, .bool false] 51)
  have HM := Lib.hid (newMachine_any (hs.of_block (hAl.block sb hs.lt)) (h.below hAl))
  have HC := Lib.hid hc
  have l1 : (ops.length : Int) ≤ 100 := by have := hc.len; omega
  have HST := Lib.hid (hs.of_block (hAl.block sb hs.lt))
  have HR0 := Lib.hid (h.below hAl)
  have HRW := Lib.hid (hr.below hAl)
  have HAL := Lib.hid hAl
  have HX0 := Lib.hid hx0
  have HOLD : Hid (sb < w.heap.size ∧ r < w.heap.size ∧ bw < w.heap.size ∧ ba < w.heap.size ∧ bh < w.heap.size ∧ gs < w.heap.size ∧ ∀ b ∈ bs, b < w.heap.size) := by
    refine Lib.hid ⟨Row.lt hs, h.lt, h.words.lt, h.watch.lt, h.hit.lt, hr.lt, fun b hb => ?_⟩
    obtain ⟨j, hj, rfl⟩ := List.getElem_of_mem hb
    exact (hr.op j hj (by rw [← hr.len]; exact hj)).lt
  clear hs h hr hc hAl hx0
  go_enter Tryz.func32, Tryz.ntmps32
  go_wp2_with fail
  refine HM.out.mono ?_
  rintro e w1 ⟨mb, x, xw, xa, xh, rfl, hma, hra, hb1, hmb0, hx0, hxw0, hxa0, hxh0⟩
  have HEB : Hid (Tri w1 w.heap.size 51 (.bool false) (.int .i64 0) (.bool false)) := by
    refine Lib.hid ?_
    exact (hb1.block w.heap.size (by simp)).trans (heap_alloc_new w _)
  have HNEW : Hid (w.heap.size ≤ w.heap.size ∧ w.heap.size < mb ∧ w.heap.size < x ∧ w.heap.size < xw ∧ w.heap.size < xa ∧ w.heap.size < xh) := by
    refine Lib.hid ?_
    have e : (w.alloc (.cells #[.bool false, .int .i64 0, .bool false] 51)).heap.size = w.heap.size + 1 := by simp
    rw [e] at hmb0 hx0 hxw0 hxa0 hxh0
    omega
  have HS0 : Hid (RunS w w1 w.heap.size mb x xw xa xh sb r bw ba bh gs bs ops s (regsOf s) ws ws wt ht ht) := Lib.hid ⟨HEB.out, hma, hra, (HST.out.of_block (hb1.block sb HST.out.lt)), HR0.out.below hb1, HRW.out.below hb1, HAL.out.trans (hb1.mono (HAL.out.size)), HX0.out, HOLD.out, HNEW.out⟩
  clear hma hra hb1 HEB
  go_wp2_with fail
  go_loopw [10] (fun v wr => ∃ (i : Nat) (X : Regs) (ws' : List Int) (ht' : Nat → Bool), i ≤ ops.length ∧ v = .int .i64 (i : Int) ∧ Hid (RunS w wr w.heap.size mb x xw xa xh sb r bw ba bh gs bs ops s X ws' ws wt ht' ht) ∧ Hid (evalZ wt (ops.drop i) X ws' = evalZ wt ops (regsOf s) ws)) (fun v _ => ops.length - (intOf v).toNat)
  case atStart => exact ⟨0, _, _, _, Nat.zero_le _, rfl, HS0, Lib.hid rfl⟩
  case round =>
    obtain ⟨i, X, ws', ht', hi, rfl, HRS, HEV⟩ := hrel
    by_cases hlt : i < ops.length
    · have hiI : (i : Int) < (ops.length : Int) := by omega
      obtain ⟨b, g0, hbl, k0, k1, k2, k3, k4, k5⟩ := HRS.out.rows.one hlt
      have HG := Lib.hid (HC.out.good ops[i] (List.getElem_mem hlt))
      have HEO : Hid (ops.drop i = ops[i] :: ops.drop (i + 1)) := Lib.hid (List.drop_eq_getElem_cons hlt)
      have HI := Lib.hid hlt
      generalize ops[i]'hlt = o at *
      go_wp2_with fail
      go_loopw [11, 12] (fun l k wk => (k = .int .i64 0 ∧ l = .slice none 0 0 ∧ wk = wr) ∨ (k = .int .i64 1 ∧ ∃ lb lc, l = .slice (some ⟨lb, 0, none⟩) 1 lc ∧ Hid (ResC wk lb (resZ wt o X ws').1 (resZ wt o X ws').2.1 false (resZ wt o X ws').2.2.2) ∧ Hid (Below wr.heap.size wr wk) ∧ Hid (wr.heap.size ≤ lb) ∧ Hid ((resZ wt o X ws').2.2.1 = false))) (fun _ k _ => 1 - (intOf k).toNat)
      case atStart => exact Or.inl ⟨rfl, rfl, rfl⟩
      case round =>
        rcases hrel with ⟨rfl, rfl, rfl⟩ | ⟨rfl, lb, lc, rfl, HF, HB, HLB, HT⟩
        · obtain ⟨v, p, t, l, hres⟩ : ∃ v p t l, resZ wt o X ws' = (v, p, t, l) := ⟨_, _, _, _, rfl⟩
          have HRO : Hid (∀ w', Below wr.heap.size wr w' → Calls Tryz.prog 58 #[.agg (regLR X).toArray, .pointer (some ⟨x, 0, none⟩), opA (bsl o.kind.text) o.d o.a o.b o.imm o.at'] w' fun e w'' => e = .returned (resA v p t l) ∧ Below w'.heap.size w' w'') := by
            refine Lib.hid ?_
            intro w' hb
            have := resultOf_any (wt := wt) X HRS.out.regs o HG.out.2.1 HG.out.2.2 (HRS.out.ra.below hb)
            rw [hres] at this
            exact this
          have HKS : Hid (∀ w', Below wr.heap.size wr w' → (Below wr.heap.size wr w' ∧ w'.rangeAt mb 0 (regLR X) ∧ w'.cell? ⟨mb, 64, none⟩ = some (.pointer (some ⟨x, 0, none⟩)) ∧ w'.cell? ⟨gs, i, none⟩ = some (.slice (some ⟨b, 0, none⟩) 1 1) ∧ w'.cell? ⟨b, 0, none⟩ = some (.string (bsl o.kind.text)) ∧ w'.cell? ⟨b, 1, none⟩ = some (.int .i64 (o.d : Int)) ∧ w'.cell? ⟨b, 2, none⟩ = some (.int .i64 (o.a : Int)) ∧ w'.cell? ⟨b, 3, none⟩ = some (.int .i64 o.b) ∧ w'.cell? ⟨b, 4, none⟩ = some (.int .u32 o.imm) ∧ w'.cell? ⟨b, 5, none⟩ = some (.int .i64 (o.at' : Int)))) := by
            refine Lib.hid ?_
            intro w' hb
            have hm := Row.of_block HRS.out.ma (hb.block mb (Row.lt HRS.out.ma))
            have hgl := HRS.out.rows.lt
            exact ⟨hb, MaB.range hm, MaB.ram hm, (hb.cell hgl).trans g0, (hb.cell hbl).trans k0, (hb.cell hbl).trans k1, (hb.cell hbl).trans k2, (hb.cell hbl).trans k3, (hb.cell hbl).trans k4, (hb.cell hbl).trans k5⟩
          have hu := Tryz.underlying106
          have hcl := regLR_len X
          have hi6 : (Tryz.prog.info? 106).map (·.size) = some (regLR X).length := by rw [hcl]; kernel_rfl
          have hone := regL_one X
          obtain ⟨kt, hkt⟩ : ∃ kt, bsl o.kind.text = kt := ⟨_, rfl⟩
          rw [hkt] at HRO HKS k0
          clear hkt
          generalize regLR X = cs at *
          go_wp2_with fail
          have hS0 := HKS.out wr (Below.refl _ _)
          go_region_held3 (fun w' => Below wr.heap.size wr w' ∧ w'.rangeAt mb 0 cs ∧ w'.cell? ⟨mb, 64, none⟩ = some (.pointer (some ⟨x, 0, none⟩)) ∧ w'.cell? ⟨gs, i, none⟩ = some (.slice (some ⟨b, 0, none⟩) 1 1) ∧ w'.cell? ⟨b, 0, none⟩ = some (.string kt) ∧ w'.cell? ⟨b, 1, none⟩ = some (.int .i64 (o.d : Int)) ∧ w'.cell? ⟨b, 2, none⟩ = some (.int .i64 (o.a : Int)) ∧ w'.cell? ⟨b, 3, none⟩ = some (.int .i64 o.b) ∧ w'.cell? ⟨b, 4, none⟩ = some (.int .u32 o.imm) ∧ w'.cell? ⟨b, 5, none⟩ = some (.int .i64 (o.at' : Int)))
            ((go_split_ands; refine HKS.out _ ?_; first | assumption | exact (Below.refl _ _).drew | (apply bw_alloc; assumption) | (refine bw_trans ?_ hb3; assumption) | exact bw_alloc (bw_trans (Below.refl _ _).drew hb3) | exact below_fill4 (bw_trans (bw_alloc (Below.refl _ _)).drew hb3) (Nat.le_refl _) _ _ _ _ | exact (bw_alloc (Below.refl _ _)).drew))
            ((go_at_call 58; refine (HRO.out _ ?_).mono ?_; (go_split_ands; assumption); rintro e w3 ⟨rfl, hb3⟩; (first | (have hq : Four w3 wr.heap.size 139 (.int .u32 0) (.int .u32 0) (.bool false) (.bool false) := four_after hb3; obtain ⟨q0, q1, q2, q3, f0, f1, f2, f3⟩ := Four.cells hq) | skip)))
          · have HFZ := Lib.hid (Four.new w3 (.int .u32 v) (.int .u32 p) (.bool t) (.bool l) 139)
            have HBZ := Lib.hid (bw_alloc (o := .cells #[.int .u32 v, .int .u32 p, .bool t, .bool l] 139) (bw_trans (Below.refl wr.heap.size wr).drew hb3))
            go_split_ands
            generalize w3.alloc (.cells #[.int .u32 v, .int .u32 p, .bool t, .bool l] 139) = W at *
            generalize w3.heap.size = rb at *
            clear hb3
            have hks := HKS.out W HBZ.out
            obtain ⟨z0, z1, z2, z3, z4, z5, z6, z7⟩ := Four.cells HFZ.out
            cases t with
            | true =>
              have HEV2 : Hid (evalZ wt ops (regsOf s) ws = .trap o.at') := by
                refine Lib.hid ?_
                have := evalZ_step wt o (ops.drop (i + 1)) X ws' HG.out.2.1
                rw [hres, if_pos rfl, ← HEO.out, HEV.out] at this
                exact this
              have hEB : Tri W w.heap.size 51 (.bool false) (.int .i64 0) (.bool false) := (HBZ.out.block w.heap.size (by have := HRS.out.ebk; exact (Array.getElem?_eq_some_iff.1 this).1)).trans HRS.out.ebk
              have HB6 := Lib.hid (below_fill3 (HRS.out.below.trans (HBZ.out.mono HRS.out.below.size)) (Nat.le_refl w.heap.size) (.bool true) (.int .i64 (o.at' : Int)) (.bool false))
              have hF6 := Tri.fill hEB (.bool true) (.int .i64 (o.at' : Int)) (.bool false)
              obtain ⟨y0, y1, y2, y3, y4, y5⟩ := Tri.cells hEB
              obtain ⟨_, _, _, x3, x4, x5, x6, x7, x8, x9⟩ := hks
              clear hres hEB
              go_wp2
              change bodyPost _ _ _ _ _ (fill3 W w.heap.size (.bool true) (.int .i64 (o.at' : Int)) (.bool false))
              clear y0 y1 y2 y3 y4 y5
              generalize fill3 W w.heap.size (.bool true) (.int .i64 (o.at' : Int)) (.bool false) = W6 at *
              obtain ⟨y0, y1, y2, _⟩ := Tri.cells hF6
              refine bodyPost_ret (v := endA true (o.at' : Int) false) (by simp [results, Tryz.results32, go_sem, y0, y1, y2]) rfl ?_
              unfold RunPost
              rw [HEV2.out]
              exact ⟨rfl, HB6.out⟩
            | false =>
              obtain ⟨iR, hR1, hR2, hR3, hR4⟩ := info_parts Tryz.infoRs
              have HRES := Lib.hid hres
              clear hres hks
              go_wp2_with (at_builtin; refine wpList_append_lies _ rfl (.tmp 64) (.tmp 66) 137 rfl wr.heap.size 139 iR (.agg #[.int .u32 0, .int .u32 0, .bool false, .bool false]) 4 12 Tryz.underlying137 hR1 hR2 hR3 hR4 rfl (by decide) _ 0 [] rfl (World.ownsRow_nil _ _ _ _) _ 1 1 [_, _, _, _] rfl rfl (four_news _ _ _ _ _ _) (fun x hx => by simp at hx; rcases hx with rfl | rfl | rfl | rfl <;> rfl) (by decide) (by unfold maxLen; omega) (by omega) (by simp; have := HBZ.out.size; omega) _ rfl ?_)
              intro g cap1 w6 hown hgrow hat hlt6
              have hRC := ResC.own hown
              have hBW := Lib.hid (bw_trans (bw_alloc HBZ.out) (grown_none hgrow))
              have hLB : Hid (wr.heap.size ≤ g) := by
                rcases hat with hat | hat
                · cases hat
                · refine Lib.hid ?_
                  rw [hat]
                  try simp
                  have := HBZ.out.size
                  omega
              have HRC : Hid (ResC w6 g (resZ wt o X ws').1 (resZ wt o X ws').2.1 false (resZ wt o X ws').2.2.2) := Lib.hid (by rw [HRES.out]; exact hRC)
              have HT6 : Hid ((resZ wt o X ws').2.2.1 = false) := Lib.hid (by rw [HRES.out])
              clear hown hgrow hat hlt6 hRC
              go_wp2
              refine ⟨Or.inr ⟨rfl, g, _, rfl, HRC, hBW, hLB, HT6⟩, ?_⟩
              simp [intOf]
          · have HFZ := Lib.hid (Four.fill (four_after hb3 : Four w3 wr.heap.size 139 (.int .u32 0) (.int .u32 0) (.bool false) (.bool false)) (.int .u32 v) (.int .u32 p) (.bool t) (.bool l))
            have HBZ := Lib.hid (below_fill4 (bw_trans (bw_alloc (Below.refl wr.heap.size wr)).drew hb3) (Nat.le_refl wr.heap.size) (.int .u32 v) (.int .u32 p) (.bool t) (.bool l))
            go_split_ands
            change Exit.then _ _ Exit.normal _ (fill4 w3 wr.heap.size (.int .u32 v) (.int .u32 p) (.bool t) (.bool l))
            generalize fill4 w3 wr.heap.size (.int .u32 v) (.int .u32 p) (.bool t) (.bool l) = W at *
            clear hb3
            have hks := HKS.out W HBZ.out
            obtain ⟨z0, z1, z2, z3, z4, z5, z6, z7⟩ := Four.cells HFZ.out
            cases t with
            | true =>
              have HEV2 : Hid (evalZ wt ops (regsOf s) ws = .trap o.at') := by
                refine Lib.hid ?_
                have := evalZ_step wt o (ops.drop (i + 1)) X ws' HG.out.2.1
                rw [hres, if_pos rfl, ← HEO.out, HEV.out] at this
                exact this
              have hEB : Tri W w.heap.size 51 (.bool false) (.int .i64 0) (.bool false) := (HBZ.out.block w.heap.size (by have := HRS.out.ebk; exact (Array.getElem?_eq_some_iff.1 this).1)).trans HRS.out.ebk
              have HB6 := Lib.hid (below_fill3 (HRS.out.below.trans (HBZ.out.mono HRS.out.below.size)) (Nat.le_refl w.heap.size) (.bool true) (.int .i64 (o.at' : Int)) (.bool false))
              have hF6 := Tri.fill hEB (.bool true) (.int .i64 (o.at' : Int)) (.bool false)
              obtain ⟨y0, y1, y2, y3, y4, y5⟩ := Tri.cells hEB
              obtain ⟨_, _, _, x3, x4, x5, x6, x7, x8, x9⟩ := hks
              clear hres hEB
              go_wp2
              change bodyPost _ _ _ _ _ (fill3 W w.heap.size (.bool true) (.int .i64 (o.at' : Int)) (.bool false))
              clear y0 y1 y2 y3 y4 y5
              generalize fill3 W w.heap.size (.bool true) (.int .i64 (o.at' : Int)) (.bool false) = W6 at *
              obtain ⟨y0, y1, y2, _⟩ := Tri.cells hF6
              refine bodyPost_ret (v := endA true (o.at' : Int) false) (by simp [results, Tryz.results32, go_sem, y0, y1, y2]) rfl ?_
              unfold RunPost
              rw [HEV2.out]
              exact ⟨rfl, HB6.out⟩
            | false =>
              obtain ⟨iR, hR1, hR2, hR3, hR4⟩ := info_parts Tryz.infoRs
              have HRES := Lib.hid hres
              clear hres hks
              go_wp2_with (at_builtin; refine wpList_append_lies _ rfl (.tmp 64) (.tmp 66) 137 rfl wr.heap.size 139 iR (.agg #[.int .u32 0, .int .u32 0, .bool false, .bool false]) 4 12 Tryz.underlying137 hR1 hR2 hR3 hR4 rfl (by decide) _ 0 [] rfl (World.ownsRow_nil _ _ _ _) _ 1 1 [_, _, _, _] rfl rfl (four_news _ _ _ _ _ _) (fun x hx => by simp at hx; rcases hx with rfl | rfl | rfl | rfl <;> rfl) (by decide) (by unfold maxLen; omega) (by omega) (by simp; have := HBZ.out.size; omega) _ rfl ?_)
              intro g cap1 w6 hown hgrow hat hlt6
              have hRC := ResC.own hown
              have hBW := Lib.hid (bw_trans (bw_alloc HBZ.out) (grown_none hgrow))
              have hLB : Hid (wr.heap.size ≤ g) := by
                rcases hat with hat | hat
                · cases hat
                · refine Lib.hid ?_
                  rw [hat]
                  try simp
                  have := HBZ.out.size
                  omega
              have HRC : Hid (ResC w6 g (resZ wt o X ws').1 (resZ wt o X ws').2.1 false (resZ wt o X ws').2.2.2) := Lib.hid (by rw [HRES.out]; exact hRC)
              have HT6 : Hid ((resZ wt o X ws').2.2.1 = false) := Lib.hid (by rw [HRES.out])
              clear hown hgrow hat hlt6 hRC
              go_wp2
              refine ⟨Or.inr ⟨rfl, g, _, rfl, HRC, hBW, hLB, HT6⟩, ?_⟩
              simp [intOf]
        · obtain ⟨v, p, t, l, hres⟩ : ∃ v p t l, resZ wt o X ws' = (v, p, t, l) := ⟨_, _, _, _, rfl⟩
          rw [hres] at HF HT
          have htt : t = false := HT.out
          subst htt
          have HS1 := Lib.hid (HRS.out.below' HB.out)
          have HRES := Lib.hid hres
          have HXW : Hid (xw < lb ∧ xh < lb ∧ mb < lb) := Lib.hid ⟨Nat.lt_of_lt_of_le HRS.out.ra.words.lt HLB.out, Nat.lt_of_lt_of_le HRS.out.ra.hit.lt HLB.out, Nat.lt_of_lt_of_le (Row.lt HRS.out.ma) HLB.out⟩
          have g0' := (HB.out.cell HRS.out.rows.lt).trans g0
          have k0' := (HB.out.cell hbl).trans k0
          have k1' := (HB.out.cell hbl).trans k1
          have k2' := (HB.out.cell hbl).trans k2
          have k3' := (HB.out.cell hbl).trans k3
          have k4' := (HB.out.cell hbl).trans k4
          have k5' := (HB.out.cell hbl).trans k5
          have hok := resZ_ok (wt := wt) (o := o) (ws := ws') HRS.out.regs HG.out.2.2
          rw [hres] at hok
          have HOK := Lib.hid hok
          have HSTEP : Hid (if l = true then evalZ wt ops (regsOf s) ws = .leave p X ws' ∧ writeD o = 0 ∧ storeQ o = false
            else evalZ wt ops (regsOf s) ws = evalZ wt (ops.drop (i + 1)) (regZ o (v, p, false, l) X) (memZ o (v, p, false, l) ws') ∧ (storeQ o = true → writeD o = 0)) := by
            refine Lib.hid ?_
            have := evalZ_step wt o (ops.drop (i + 1)) X ws' HG.out.2.1
            rw [hres, if_neg (show ¬ (false = true) by decide), ← HEO.out, HEV.out] at this
            exact this
          obtain ⟨q0, q1, q2, q3⟩ : wr.cell? ⟨lb, 0, none⟩ = some (.int .u32 v) ∧ wr.cell? ⟨lb, 1, none⟩ = some (.int .u32 p) ∧ wr.cell? ⟨lb, 2, none⟩ = some (.bool false) ∧ wr.cell? ⟨lb, 3, none⟩ = some (.bool l) := ⟨HF.out.c0, HF.out.c1, HF.out.c2, HF.out.c3⟩
          have HWO := Lib.hid (fun wx => writeOf_any o wx)
          have HLBS : Hid (lb < wr.heap.size) := Lib.hid (World.block_lt_of_cell? _ _ HF.out.c0)
          obtain ⟨kt, hkt⟩ : ∃ kt, bsl o.kind.text = kt := ⟨_, rfl⟩
          have HKT := Lib.hid hkt
          rw [hkt] at HWO k0'
          clear hkt g0 k0 k1 k2 k3 k4 k5 HB HT hres hok hbl
          go_wp2_with fail
          go_loopw [14, 15] (fun lv k wk => (k = .int .i64 0 ∧ lv = .int .i64 (-1) ∧ wk = wr) ∨ (k = .int .i64 1 ∧ lv = .int .i64 (if l = true then p else -1) ∧ ∃ ht2, Hid (RunS w wk w.heap.size mb x xw xa xh sb r bw ba bh gs bs ops s (regZ o (v, p, false, l) X) (memZ o (v, p, false, l) ws') ws wt ht2 ht))) (fun _ k _ => 1 - (intOf k).toNat)
          case atStart => exact Or.inl ⟨rfl, rfl, rfl⟩
          case round =>
            rcases hrel with ⟨rfl, rfl, rfl⟩ | ⟨rfl, rfl, ht2, HS2⟩
            · go_wp2_with fail
              (with_reducible refine (HWO.out _).mono ?_)
              rintro e w4 ⟨rfl, hb4⟩
              have hS4 := HS1.out.below' (bw_trans (bw_alloc (Below.refl _ _)) hb4)
              have hop := (hb4.block wr.heap.size (by simp)).trans (heap_alloc_new wr _)
              have hbw4 := bw_trans (bw_alloc (Below.refl wr.heap.size wr)) hb4
              have HWN : Hid (mb < wr.heap.size ∧ xw < wr.heap.size ∧ xh < wr.heap.size) := Lib.hid ⟨Row.lt HS1.out.ma, HS1.out.ra.words.lt, HS1.out.ra.hit.lt⟩
              obtain ⟨nb, hnb⟩ : ∃ nb, wr.heap.size = nb := ⟨_, rfl⟩
              rw [hnb] at hop
              have HOP := Lib.hid hop
              obtain ⟨o0, o1, o2, o3, o4, o5⟩ := Six6.cells hop
              have r0 := (hbw4.cell HLBS.out).trans q0
              have r1 := (hbw4.cell HLBS.out).trans q1
              have r3 := (hbw4.cell HLBS.out).trans q3
              have HS4 := Lib.hid hS4
              have HLB4 : Hid (lb < nb) := Lib.hid (by rw [← hnb]; exact HLBS.out)
              rw [hnb] at HWN
              clear hS4 hb4 hbw4 q0 q1 q2 q3 g0' k0' k1' k2' k3' k4' k5' hop
              cases l with
              | true =>
                have hst := HSTEP.out
                rw [if_pos rfl] at hst
                have HD0 : Hid ((writeD o : Int) = 0) := Lib.hid (by rw [hst.2.1]; rfl)
                have hne := text_ne (k := o.kind) (fun e => by have := hst.2.2; unfold storeQ at this; rw [e] at this; exact absurd this (by decide))
                rw [HKT.out] at hne
                have HREG : Hid (regZ o (v, p, false, true) X = X) := Lib.hid (by unfold regZ; rw [if_pos hst.2.1])
                have HMEM : Hid (memZ o (v, p, false, true) ws' = ws') := Lib.hid (by unfold memZ; rw [hst.2.2]; rfl)
                obtain ⟨p0, p1⟩ := HOK.out.2
                have hd0 := HD0.out
                clear hst HD0
                go_wp2
                refine ⟨Or.inr ⟨rfl, rfl, _, by rw [HREG.out, HMEM.out]; exact HS4⟩, ?_⟩
                simp [intOf]
              | false =>
                have hst := HSTEP.out
                rw [if_neg (show ¬ (false = true) by decide)] at hst
                by_cases hw0 : writeD o = 0
                · have HD0 : Hid ((writeD o : Int) = 0) := Lib.hid (by rw [hw0]; rfl)
                  have HREG : Hid (regZ o (v, p, false, false) X = X) := Lib.hid (by unfold regZ; rw [if_pos hw0])
                  have hd0 := HD0.out
                  by_cases hsq : storeQ o = true
                  · have hk : o.kind = .store := by
                      unfold storeQ at hsq
                      cases hh : o.kind <;> rw [hh] at hsq <;> first | rfl | exact absurd hsq (by decide)
                    have hkt2 : kt = ⟨#[115, 116, 111, 114, 101]⟩ := by rw [← HKT.out, hk]; rfl
                    subst hkt2
                    obtain ⟨s1, s2, s3⟩ := res_store_parts hk HRES.out
                    have hgz : o.d = 1 ∨ o.d = 2 ∨ o.d = 4 := by
                      have := HG.out.2.1
                      unfold opG at this
                      rw [hk] at this
                      exact this.1
                    have HST : Hid (∀ wx, RamM wx x xw xa xh ws' wt ht' → Calls Tryz.prog 60 #[.pointer (some ⟨x, 0, none⟩), .int .u32 p, .int .i64 (o.d : Int), .int .u32 v] wx fun e w' => e = .returned (.int .i64 0) ∧ RamM w' x xw xa xh (storeN p.toNat o.d v o.d ws') wt (hitN wt ht' (p.toNat / 256)) ∧ Kept (fun k => k = xw ∨ k = xh) wx w') := by
                      refine Lib.hid ?_
                      intro wx hx
                      have hp : ((p.toNat : Nat) : Int) = p := by omega
                      have := store_yes hx p.toNat o.d hgz v HOK.out.1.1 HOK.out.1.2 (by rw [hp]; exact s1)
                      rw [hp] at this
                      exact this
                    have HMEM : Hid (memZ o (v, p, false, false) ws' = storeN p.toNat o.d v o.d ws') := Lib.hid (by unfold memZ; rw [if_pos hsq])
                    have hmr := MaB.ram HS4.out.ma
                    have hrd := Lib.hid (HS4.out.drew)
                    clear hst HD0 hk s1 s2 s3 hgz hsq hw0
                    go_wp2_with fail
                    go_still_tail 16, (by kernel_rfl)
                    change wpList _ _ _ _ _ w4.drew
                    have HLd : Hid (lb < w4.drew.heap.size ∧ w4.drew.cell? ⟨lb, 3, none⟩ = some (.bool false)) := Lib.hid ⟨World.block_lt_of_cell? _ _ r3, r3⟩
                    generalize w4.drew = wd at *
                    go_wp2_with fail
                    refine (HST.out _ hrd.out.ra).mono ?_
                    rintro e w5 ⟨rfl, hra5, hk5⟩
                    have HS5 := Lib.hid (hrd.out.mem hra5 hk5)
                    have r3' : w5.cell? ⟨lb, 3, none⟩ = some (.bool false) := (World.cell?_of_block (a := ⟨lb, 3, none⟩) (hk5.same lb HLd.out.1 (by have := HXW.out; omega))).trans HLd.out.2
                    clear hra5 hk5 r0 r1 r3 o0 o1 o2 o3 o4 o5 hmr
                    go_wp2
                    refine ⟨Or.inr ⟨rfl, rfl, _, by rw [HREG.out, HMEM.out]; exact HS5⟩, ?_⟩
                    simp [intOf]
                  · have hne := text_ne (k := o.kind) (fun e => by apply hsq; unfold storeQ; rw [e]; rfl)
                    rw [HKT.out] at hne
                    have HMEM : Hid (memZ o (v, p, false, false) ws' = ws') := Lib.hid (by unfold memZ; rw [if_neg hsq])
                    clear hst HD0 hsq hw0
                    go_wp2
                    refine ⟨Or.inr ⟨rfl, rfl, _, by rw [HREG.out, HMEM.out]; exact HS4⟩, ?_⟩
                    simp [intOf]
                · have hsq : ¬ storeQ o = true := fun e => hw0 (hst.2 e)
                  have hne := text_ne (k := o.kind) (fun e => by apply hsq; unfold storeQ; rw [e]; rfl)
                  rw [HKT.out] at hne
                  have HMEM : Hid (memZ o (v, p, false, false) ws' = ws') := Lib.hid (by unfold memZ; rw [if_neg hsq])
                  have hdl := writeD_lt HG.out.2.1
                  have HREG : Hid (regZ o (v, p, false, false) X = updR X (writeD o) v) := Lib.hid (by unfold regZ; rw [if_neg hw0])
                  have hm0 := MaB.reg HS4.out.ma hdl
                  have hmf := Row.free HS4.out.ma (writeD o)
                  have HS5 := Lib.hid (HS4.out.drew.setX hdl HOK.out.1)
                  have hdp : (0 : Int) < (writeD o : Int) := by omega
                  have hdI : (writeD o : Int) < 64 := by omega
                  have hKs := Kept.set w4.drew mb (writeD o) (.int .u32 v)
                  have o0' : (w4.drew.setCell ⟨mb, writeD o, none⟩ (.int .u32 v)).cell? ⟨nb, 0, none⟩ = some (.string kt) := (World.cell?_of_block (a := ⟨nb, 0, none⟩) (hKs.same nb (by exact World.block_lt_of_cell? _ _ o0) (by have := HWN.out; omega))).trans o0
                  have r3' : (w4.drew.setCell ⟨mb, writeD o, none⟩ (.int .u32 v)).cell? ⟨lb, 3, none⟩ = some (.bool false) := (World.cell?_of_block (a := ⟨lb, 3, none⟩) (hKs.same lb (by exact World.block_lt_of_cell? _ _ r3) (by have := HXW.out; omega))).trans r3
                  generalize writeD o = dd at *
                  clear hst hsq hw0 hKs
                  go_wp2_with fail
                  go_still_tail 10, (by kernel_rfl)
                  change wpList _ _ _ _ _ w4.drew
                  have hm0d : w4.drew.cell? ⟨mb, dd, none⟩ = some _ := hm0
                  have hmfd : w4.drew.frozen? ⟨mb, dd, none⟩ = false := hmf
                  generalize w4.drew = wd at *
                  clear hm0 hmf r0 r1 r3 o0 o1 o2 o3 o4 o5
                  go_wp2
                  refine ⟨Or.inr ⟨rfl, rfl, _, by rw [HREG.out, HMEM.out]; exact HS5⟩, ?_⟩
                  simp [intOf]
            · cases l with
              | false =>
                have hst := HSTEP.out
                rw [if_neg (show ¬ (false = true) by decide)] at hst
                have HE2 := Lib.hid hst.1
                clear hst q0 q1 q2 q3 g0' k0' k1' k2' k3' k4' k5'
                go_wp2
                refine ⟨⟨i + 1, _, _, _, by have := HI.out; omega, by go_num, HS2, Lib.hid HE2.out.symm⟩, ?_⟩
                simp [intOf]
                have := HI.out
                omega
              | true =>
                have hst := HSTEP.out
                rw [if_pos rfl] at hst
                have HEL := Lib.hid hst.1
                have hreg : regZ o (v, p, false, true) X = X := by unfold regZ; rw [if_pos hst.2.1]
                have hmem : memZ o (v, p, false, true) ws' = ws' := by unfold memZ; rw [hst.2.2]; rfl
                rw [hreg, hmem] at HS2
                obtain ⟨p0, p1⟩ := HOK.out.2
                clear hst hreg hmem q0 q1 q2 q3 g0' k0' k1' k2' k3' k4' k5'
                have HALL : Hid (∀ A, Kept (fun k => k = sb) wr A → MaB A mb X x ∧ RamM A x xw xa xh ws' wt ht2 ∧ RamM A r bw ba bh ws wt ht ∧ Tri A w.heap.size 51 (.bool false) (.int .i64 0) (.bool false)) := by
                  refine Lib.hid ?_
                  intro A hA
                  have hb := HS2.out
                  obtain ⟨u1, u2, u3, u4, u5⟩ := hb.st_ne
                  obtain ⟨p1, p2, p3, p4, p5, p6⟩ := hb.new
                  obtain ⟨o1, _⟩ := hb.old
                  exact ⟨Row.kept hb.ma hA (by omega), hb.ra.kept hA (by omega) (by omega) (by omega) (by omega), hb.r0.kept hA (fun e => u1 e.symm) (fun e => u2 e.symm) (fun e => u3 e.symm) (fun e => u4 e.symm), (hA.same w.heap.size (Array.getElem?_eq_some_iff.1 hb.ebk).1 (by omega)).trans hb.ebk⟩
                have HSB := HS2.out.st
                have HS2B := Lib.hid HSB
                clear HSB
                go_wp2_with fail
                go_loopw [18] (fun kv wk => ∃ j : Nat, 1 ≤ j ∧ j ≤ 32 ∧ kv = .int .i64 (j : Int) ∧ Hid (StB wk sb { s with r := fun k => if 1 ≤ k ∧ k < j then X k else s.r k }) ∧ Hid (Kept (fun k => k = sb) wr wk)) (fun kv _ => 32 - (intOf kv).toNat)
                case atStart => exact ⟨1, Nat.le_refl _, by decide, rfl, Lib.hid (HS2B.out.eqv (fun k _ => stG_eq (fun k hk => by show s.r k = if 1 ≤ k ∧ k < 1 then X k else s.r k; rw [if_neg (by omega)]) k)), Lib.hid (Kept.refl _ _)⟩
                case round =>
                  obtain ⟨j, j0, j1, rfl, HSj, HKj⟩ := hrel
                  obtain ⟨ma, ra, r0', eb'⟩ := HALL.out _ HKj.out
                  have HMA := Lib.hid ma
                  have HRA := Lib.hid ra
                  have HR0 := Lib.hid r0'
                  have HEB := Lib.hid eb'
                  clear ma ra r0' eb'
                  by_cases hj : j < 32
                  · have hjI : (j : Int) < 32 := by omega
                    have hj0I : (1 : Int) ≤ (j : Int) := by omega
                    have hjI64 : (j : Int) < 64 := by omega
                    have hm := MaB.reg HMA.out (show j < 64 by omega)
                    have hs := StB.reg HSj.out hj
                    have hf := Row.free HSj.out j
                    have HSn := Lib.hid (((StB.setRegR (Row.of_block (w' := wr.drew) HSj.out rfl) hj (X j))).eqv (fun k _ => stG_eq (fun k hk => stR_step s X j0 k) k))
                    have HKn := Lib.hid ((HKj.out.trans (Kept.of_below (Below.refl _ _).drew)).trans (Kept.set wr.drew sb j (.int .u32 (X j))))
                    have HJ := Lib.hid hj
                    generalize X j = xj at *
                    generalize hsv : ({ s with r := fun k => if 1 ≤ k ∧ k < j then X k else s.r k } : StF).r j = sv at hs
                    clear hj hsv
                    go_wp2_with fail
                    go_still_tail 11, (by kernel_rfl)
                    change wpList _ _ _ _ _ wr.drew
                    have hsd : wr.drew.cell? ⟨sb, j, none⟩ = some _ := hs
                    have hfd : wr.drew.frozen? ⟨sb, j, none⟩ = false := hf
                    generalize wr.drew = wd at *
                    clear hm hs hf
                    go_wp2
                    refine ⟨⟨j + 1, by omega, by have := HJ.out; omega, by go_num, HSn, HKn⟩, ?_⟩
                    simp [intOf]
                    have := HJ.out
                    omega
                  · obtain rfl : j = 32 := by omega
                    have h32 := MaB.reg HMA.out (show 32 < 64 by decide)
                    have s32 := Row.cell HSj.out (show 32 < 43 by decide)
                    have f32 := Row.free HSj.out 32
                    have HT1 := Lib.hid (StB.putR HSj.out 32 (.int .u32 (X 32)) (s' := { s with r := fun k => if 1 ≤ k ∧ k < 32 then X k else s.r k, hi := X 32 }) rfl (by (intro j hj hne; unfold stG; by_cases e : j < 32; (rw [if_pos e, if_pos e]); (rw [if_neg e, if_neg e]; rcases (show j = 32 ∨ j = 33 ∨ j = 34 ∨ j = 35 ∨ j = 36 ∨ j = 37 ∨ j = 38 ∨ j = 39 ∨ j = 40 ∨ j = 41 ∨ j = 42 by omega) with rfl | rfl | rfl | rfl | rfl | rfl | rfl | rfl | rfl | rfl | rfl <;> first | rfl | exact absurd rfl hne))))
                    have HK1 := Lib.hid (HKj.out.trans (Kept.set wr sb 32 (.int .u32 (X 32))))
                    go_upto_region 31 with fail
                    clear h32 s32 f32
                    generalize wr.setCell ⟨sb, 32, none⟩ (.int .u32 (X 32)) = A1 at *
                    obtain ⟨ma1, _, _, _⟩ := HALL.out _ HK1.out
                    have h33 := MaB.reg ma1 (show 33 < 64 by decide)
                    have s33 : A1.cell? ⟨sb, 33, none⟩ = some _ := Row.cell HT1.out (show 33 < 43 by decide)
                    have f33 := Row.free HT1.out 33
                    have HT2 := Lib.hid (StB.putR HT1.out 33 (.int .u32 (X 33)) (s' := { s with r := fun k => if 1 ≤ k ∧ k < 32 then X k else s.r k, hi := X 32, lo := X 33 }) rfl (by (intro j hj hne; unfold stG; by_cases e : j < 32; (rw [if_pos e, if_pos e]); (rw [if_neg e, if_neg e]; rcases (show j = 32 ∨ j = 33 ∨ j = 34 ∨ j = 35 ∨ j = 36 ∨ j = 37 ∨ j = 38 ∨ j = 39 ∨ j = 40 ∨ j = 41 ∨ j = 42 by omega) with rfl | rfl | rfl | rfl | rfl | rfl | rfl | rfl | rfl | rfl | rfl <;> first | rfl | exact absurd rfl hne))))
                    have HK2 := Lib.hid (HK1.out.trans (Kept.set A1 sb 33 (.int .u32 (X 33))))
                    clear ma1 HMA HRA HR0 HEB
                    go_upto_region 32 with fail
                    clear h33 s33 f33
                    generalize A1.setCell ⟨sb, 33, none⟩ (.int .u32 (X 33)) = A2 at *
                    have s34 : A2.cell? ⟨sb, 34, none⟩ = some _ := Row.cell HT2.out (show 34 < 43 by decide)
                    have f34 := Row.free HT2.out 34
                    have HT3 := Lib.hid (StB.putR HT2.out 34 (.int .u32 p) (s' := { s with r := fun k => if 1 ≤ k ∧ k < 32 then X k else s.r k, hi := X 32, lo := X 33, pc := p }) rfl (by (intro j hj hne; unfold stG; by_cases e : j < 32; (rw [if_pos e, if_pos e]); (rw [if_neg e, if_neg e]; rcases (show j = 32 ∨ j = 33 ∨ j = 34 ∨ j = 35 ∨ j = 36 ∨ j = 37 ∨ j = 38 ∨ j = 39 ∨ j = 40 ∨ j = 41 ∨ j = 42 by omega) with rfl | rfl | rfl | rfl | rfl | rfl | rfl | rfl | rfl | rfl | rfl <;> first | rfl | exact absurd rfl hne))))
                    have HK3 := Lib.hid (HK2.out.trans (Kept.set A2 sb 34 (.int .u32 p)))
                    go_upto_region 33 with fail
                    clear s34 f34
                    generalize A2.setCell ⟨sb, 34, none⟩ (.int .u32 p) = A3 at *
                    have s34 : A3.cell? ⟨sb, 34, none⟩ = some (.int .u32 p) := Row.cell HT3.out (show 34 < 43 by decide)
                    have s35 : A3.cell? ⟨sb, 35, none⟩ = some _ := Row.cell HT3.out (show 35 < 43 by decide)
                    have f35 := Row.free HT3.out 35
                    have HT4 := Lib.hid (StB.putR HT3.out 35 (.int .u32 ((p + 4) % 4294967296)) (s' := { s with r := fun k => if 1 ≤ k ∧ k < 32 then X k else s.r k, hi := X 32, lo := X 33, pc := p, next := (p + 4) % 4294967296 }) rfl (by (intro j hj hne; unfold stG; by_cases e : j < 32; (rw [if_pos e, if_pos e]); (rw [if_neg e, if_neg e]; rcases (show j = 32 ∨ j = 33 ∨ j = 34 ∨ j = 35 ∨ j = 36 ∨ j = 37 ∨ j = 38 ∨ j = 39 ∨ j = 40 ∨ j = 41 ∨ j = 42 by omega) with rfl | rfl | rfl | rfl | rfl | rfl | rfl | rfl | rfl | rfl | rfl <;> first | rfl | exact absurd rfl hne))))
                    have HK4 := Lib.hid (HK3.out.trans (Kept.set A3 sb 35 (.int .u32 ((p + 4) % 4294967296))))
                    have HPL := Lib.hid (fun wx => plusH_any p 4 p0 p1 (by decide) (by decide) wx)
                    go_wp2_with fail
                    (with_reducible refine (HPL.out _).mono ?_)
                    rintro e w9 ⟨rfl, rfl⟩
                    go_upto_region 34 with fail
                    clear s34 s35 f35
                    generalize A3.setCell ⟨sb, 35, none⟩ (.int .u32 ((p + 4) % 4294967296)) = A4 at *
                    have s42 : A4.cell? ⟨sb, 42, none⟩ = some (.int .i64 s.count) := Row.cell HT4.out (show 42 < 43 by decide)
                    have f42 := Row.free HT4.out 42
                    have HT5 := Lib.hid (StB.putR HT4.out 42 (.int .i64 (s.count + (many : Int))) (s' := { s with r := fun k => if 1 ≤ k ∧ k < 32 then X k else s.r k, hi := X 32, lo := X 33, pc := p, next := (p + 4) % 4294967296, count := s.count + (many : Int) }) rfl (by (intro j hj hne; unfold stG; by_cases e : j < 32; (rw [if_pos e, if_pos e]); (rw [if_neg e, if_neg e]; rcases (show j = 32 ∨ j = 33 ∨ j = 34 ∨ j = 35 ∨ j = 36 ∨ j = 37 ∨ j = 38 ∨ j = 39 ∨ j = 40 ∨ j = 41 ∨ j = 42 by omega) with rfl | rfl | rfl | rfl | rfl | rfl | rfl | rfl | rfl | rfl | rfl <;> first | rfl | exact absurd rfl hne))))
                    have HK5 := Lib.hid (HK4.out.trans (Kept.set A4 sb 42 (.int .i64 (s.count + (many : Int)))))
                    have hmany : (many : Int) ≤ 24 := by have := HC.out.m1; omega
                    go_upto_region 35 with fail
                    clear s42 f42
                    generalize A4.setCell ⟨sb, 42, none⟩ (.int .i64 (s.count + (many : Int))) = A5 at *
                    obtain ⟨ma5, ra5, r05, eb5⟩ := HALL.out _ HK5.out
                    obtain ⟨u1, u2, u3, u4, u5⟩ := HS2.out.st_ne
                    obtain ⟨p1', p2', p3', p4', p5', p6'⟩ := HS2.out.new
                    obtain ⟨o1', o2', o3', o4', o5', o6', o7'⟩ := HS2.out.old
                    have h64 := MaB.ram ma5
                    obtain ⟨d0, d1, d2⟩ := ra5.cells
                    obtain ⟨e0, e1, e2⟩ := r05.cells
                    have fr : A5.frozen? ⟨r, 0, none⟩ = false := by
                      have := r05.blk
                      simp [World.frozen?, this]
                    have hKr := Kept.set A5 r 0 (.slice (some ⟨xw, 0, none⟩) 4096 4096)
                    have hblk := Joins.block_setCell (i := 0) r05.blk (.slice (some ⟨xw, 0, none⟩) 4096 4096)
                    obtain ⟨y1, y2, y3, y4, y5⟩ := r05.apart
                    have hnx : xw ≠ r := by omega
                    have HR6 : Hid (RamM (A5.setCell ⟨r, 0, none⟩ (.slice (some ⟨xw, 0, none⟩) 4096 4096)) r xw ba bh ws' wt ht) := Lib.hid ⟨hblk, ra5.words.kept hKr hnx, r05.watch.kept hKr (fun e => y2 e.symm), r05.hit.kept hKr (fun e => y3 e.symm), r05.ne, ra5.len, ra5.ok⟩
                    have HT6 := Lib.hid (Row.kept HT5.out hKr u1)
                    have HE6 : Hid (Tri (A5.setCell ⟨r, 0, none⟩ (.slice (some ⟨xw, 0, none⟩) 4096 4096)) w.heap.size 51 (.bool false) (.int .i64 0) (.bool false)) := Lib.hid ((hKr.same w.heap.size (Array.getElem?_eq_some_iff.1 eb5).1 (by omega)).trans eb5)
                    have HSM : Hid (∀ k, k < w.heap.size → k ≠ sb → k ≠ r → (A5.setCell ⟨r, 0, none⟩ (.slice (some ⟨xw, 0, none⟩) 4096 4096)).heap[k]? = w.heap[k]?) := by
                      refine Lib.hid ?_
                      intro k hk h1 h2
                      have hw2 := HS2.out.below
                      rw [hKr.same k (Nat.lt_of_lt_of_le hk (Nat.le_trans hw2.size HK5.out.below.size)) h2, HK5.out.same k (Nat.lt_of_lt_of_le hk hw2.size) h1, hw2.block k hk]
                    have HB6 : Hid (Below 0 w (A5.setCell ⟨r, 0, none⟩ (.slice (some ⟨xw, 0, none⟩) 4096 4096))) := Lib.hid ((HS2.out.below.mono (Nat.zero_le _)).trans (HK5.out.below.trans hKr.below))
                    have HNE : Hid (sb ≠ w.heap.size ∧ r ≠ w.heap.size ∧ xw ≠ w.heap.size ∧ ba ≠ w.heap.size ∧ bh ≠ w.heap.size) := Lib.hid ⟨by omega, by omega, by omega, by omega, by omega⟩
                    have HXW2 : Hid (w.heap.size ≤ xw) := Lib.hid (by omega)
                    clear ma5 ra5 r05 eb5 hKr hblk y1 y2 y3 y4 y5 hnx u1 u2 u3 u4 u5 p1' p2' p3' p4' p5' p6' o1' o2' o3' o4' o5' o6' o7'
                    go_upto_region 36 with fail
                    clear h64 d0 d1 d2 e0 e1 e2 fr
                    generalize A5.setCell ⟨r, 0, none⟩ (.slice (some ⟨xw, 0, none⟩) 4096 4096) = A6 at *
                    obtain ⟨t0, t1, t2, t3, t4, t5⟩ := Tri.cells HE6.out
                    have hF := Tri.fill HE6.out (.bool false) (.int .i64 0) (.bool false)
                    have HK7 : Hid (Kept (fun k => k = w.heap.size) A6 (fill3 A6 w.heap.size (.bool false) (.int .i64 0) (.bool false))) := Lib.hid (((Kept.set A6 w.heap.size 0 (.bool false)).trans (Kept.set _ w.heap.size 1 (.int .i64 0))).trans (Kept.set _ w.heap.size 2 (.bool false)))
                    go_wp2
                    change bodyPost _ _ _ _ _ (fill3 A6 w.heap.size (.bool false) (.int .i64 0) (.bool false))
                    clear t0 t1 t2 t3 t4 t5
                    generalize fill3 A6 w.heap.size (.bool false) (.int .i64 0) (.bool false) = A7 at *
                    obtain ⟨t0, t1, t2, _⟩ := Tri.cells hF
                    refine bodyPost_ret (v := endA false 0 false) (by simp [results, Tryz.results32, go_sem, t0, t1, t2]) rfl ?_
                    unfold RunPost
                    rw [HEL.out]
                    obtain ⟨n1, n2, n3, n4, n5⟩ := HNE.out
                    refine ⟨rfl, (Row.kept HT6.out HK7.out n1).eqv (fun k _ => stG_eq (fun k hk => ?_) k), ⟨xw, HR6.out.kept HK7.out n2 n3 n4 n5, HXW2.out⟩, HB6.out.trans HK7.out.below, fun k hk hne => ?_⟩
                    · show (if 1 ≤ k ∧ k < 32 then X k else s.r k) = if k = 0 then s.r 0 else X k
                      by_cases e : k = 0
                      · subst e; rfl
                      · rw [if_neg e, if_pos (by omega)]
                    · rw [HK7.out.same k (Nat.lt_of_lt_of_le hk HB6.out.size) (by omega), HSM.out k hk (fun e => hne (Or.inl e)) (fun e => hne (Or.inr e))]
    · have he : i = ops.length := by omega
      subst he
      have hfell : evalZ wt ops (regsOf s) ws = .fell := by
        rw [← HEV.out, List.drop_length]
        rfl
      have HFELL := Lib.hid hfell
      obtain ⟨t0, t1, t2, t3, t4, t5⟩ := Tri.cells HRS.out.ebk
      have hF := Tri.fill HRS.out.ebk (.bool false) (.int .i64 0) (.bool true)
      clear hfell
      go_wp2
      change bodyPost _ _ _ _ _ (fill3 wr w.heap.size (.bool false) (.int .i64 0) (.bool true))
      clear t0 t1 t2 t3 t4 t5
      generalize fill3 wr w.heap.size (.bool false) (.int .i64 0) (.bool true) = A7 at *
      obtain ⟨t0, t1, t2, _⟩ := Tri.cells hF
      refine bodyPost_ret (v := endA false 0 true) (by simp [results, Tryz.results32, go_sem, t0, t1, t2]) rfl ?_
      unfold RunPost
      rw [HFELL.out]
      trivial
end Go.Proofs.YtadoaldnjnkhgaaGreatDoor
