/- The walk of the document's EvalOf. The walk of law3's memory. Conditions: as each theorem states. -/
import Derived.Test.YtlnefmgiiogcmaaGreatDoorQ48
import Derived.Maps.OwnRows
import Derived.Test.YtlnefmgiiogcmaaGreatDoorQ31
import Derived.Deep.MidRow
set_option linter.unusedVariables false
set_option linter.unusedSimpArgs false
namespace Go.Proofs.YtlnefmgiiogcmaaGreatDoor
open Go.RowKit
theorem evalZ_out (wt : Nat → Bool) : ∀ (ops : List OpN) (X : Regs) (ws : List Int), (∃ o ∈ ops, outK o.kind = true) → evalZ wt ops X ws ≠ .fell
  | [], _, _, h => by obtain ⟨o, ho, _⟩ := h; cases ho
  | o :: os, X, ws, h => by
    by_cases hs : ∃ o ∈ os, outK o.kind = true
    · have ih2 := fun X ws => evalZ_out wt os X ws hs
      obtain ⟨k, d, a, b, imm, n⟩ := o
      cases k <;> simp only [evalZ] <;> (repeat' split) <;> first | exact ih2 _ _ | (intro e; cases e)
    · have ho : outK o.kind = true := by
        obtain ⟨x, hx, hx2⟩ := h
        rcases List.mem_cons.1 hx with rfl | hx
        · exact hx2
        · exact absurd ⟨x, hx, hx2⟩ hs
      obtain ⟨k, d, a, b, imm, n⟩ := o
      cases k <;> simp only [outK] at ho <;> first | (cases ho; done) | (simp only [evalZ]; intro e; cases e)
theorem CodeOK.ends {many : Nat} {ops : List OpN} (h : CodeOK many ops) (wt : Nat → Bool) (X : Regs) (ws : List Int) : evalZ wt ops X ws ≠ .fell := by
  have hn := h.ne
  refine evalZ_out wt ops X ws ⟨ops[ops.length - 1]'(by omega), List.getElem_mem _, ?_⟩
  rw [h.out (ops.length - 1) (by omega)]
  exact decide_eq_true (by omega)
end Go.Proofs.YtlnefmgiiogcmaaGreatDoor
namespace Go.Proofs.YtlnefmgiiogcmaaGreatDoor
open Go.RowKit
def pageW (p : Int) : Nat → Bool := if 0 ≤ p ∧ p < 64 then setPg (fun _ => false) p.toNat true else fun _ => false
set_option maxHeartbeats 4000000 in
set_option maxRecDepth 100000 in
theorem memory_any {w : World} {A : Array Value} {a : Option Addr} {n c : Nat} {wa : Int} {us : List Int} {ad : Nat → Addr} (hA : A.size = 45) (h43 : A[43]? = some (.slice a n c)) (h44 : A[44]? = some (.int .i64 wa)) (hS : Sents w ad)
    (hN : ∀ wx, Below w.heap.size w wx → Calls Tryz.prog 15 #[.slice a n c] wx fun e w' => MadeP wx (padW us) (fun _ => false) 0 e w') :
    Calls Tryz.prog 10 #[.agg A] w fun e w' => MadeP w (padW us) (pageW wa) 1 e w' := by
  have hb := (Below.refl w.heap.size w).alloc (Nat.le_refl _) (.cells A 29)
  have hbx := heap_alloc_new w (.cells A 29)
  have HB := Lib.hid hb
  have HBX := Lib.hid hbx
  have HN := Lib.hid (hN _ hb)
  have HS := Lib.hid hS
  have HH := Lib.hid (And.intro h43 h44)
  clear hb hbx hN hS h43 h44
  go_enter Tryz.func10, Tryz.ntmps10
  go_upto_region 1 with fail
  generalize w.alloc (.cells A 29) = W at *
  have c43 : W.cell? ⟨w.heap.size, 43, none⟩ = some (.slice a n c) := by simp only [World.cell?, HBX.out]; exact HH.out.1
  have HLT : Hid (w.heap.size < W.heap.size) := Lib.hid (Array.getElem?_eq_some_iff.1 HBX.out).1
  go_wp2_with fail
  refine HN.out.mono ?_
  intro e w1 hm
  obtain ⟨r, bb, mw, mh, rfl, hR, hb1, x1, x2, x3, x4, x5⟩ := hm
  have HR := Lib.hid hR
  have HB1 := Lib.hid (HB.out.trans (hb1.mono HB.out.size))
  have HX := Lib.hid (And.intro x1 (And.intro x2 (And.intro x3 (And.intro x4 x5))))
  have hbx1 := (hb1.block _ HLT.out).trans HBX.out
  have c44 : w1.cell? ⟨w.heap.size, 44, none⟩ = some (.int .i64 wa) := by simp only [World.cell?, hbx1]; exact HH.out.2
  have HS1 := Lib.hid (HS.out.below HB1.out)
  have HSZ := Lib.hid HB.out.size
  clear hR hb1 x1 x2 x3 x4 x5 hbx1 c43
  by_cases h0 : 0 ≤ wa ∧ wa < 64
  · have HWT := Lib.hid (watchOn_yes HR.out ⟨HX.out.2.2.2.2.1, fun e => by
      have h1 := HR.out.blk
      obtain ⟨D, h2, _⟩ := HR.out.watch.ex
      rw [e] at h1
      obtain ⟨es, clock, h3, _⟩ := h2
      rw [h1] at h3
      cases h3⟩ (by decide) wa h0.1 h0.2)
    have HPG : Hid (pageW wa = setPg (fun _ => false) wa.toNat true) := Lib.hid (if_pos h0)
    clear h0
    go_wp2_with fail
    refine HWT.out.mono ?_
    rintro e w2 ⟨rfl, hr2, hk2⟩
    have HR2 := Lib.hid hr2
    have HB2 := Lib.hid (HB1.out.trans (hk2.to_below (B := w.heap.size) HB1.out.size (fun k hk e => by have := HX.out.2.2.1; have := HSZ.out; omega)))
    clear hr2 hk2
    go_wp2_with fail
    go_ret
    refine ⟨r, bb, mw, mh, rfl, ?_, HB2.out, by have := HX.out.1; have := HSZ.out; omega, by have := HX.out.2.1; have := HSZ.out; omega, by have := HX.out.2.2.1; have := HSZ.out; omega, by have := HX.out.2.2.2.1; have := HSZ.out; omega, HX.out.2.2.2.2⟩
    rw [HPG.out]
    exact HR2.out
  · have HWT := Lib.hid (watchOn_no (w := w1) (r := r) wa (by omega) HS1.out)
    have HPG : Hid (pageW wa = fun _ => false) := Lib.hid (if_neg h0)
    clear h0
    go_wp2_with fail
    refine HWT.out.mono ?_
    rintro e w2 ⟨⟨x, rfl⟩, rfl⟩
    go_wp2_with fail
    go_ret
    refine ⟨r, bb, mw, mh, rfl, ?_, HB1.out, by have := HX.out.1; have := HSZ.out; omega, by have := HX.out.2.1; have := HSZ.out; omega, by have := HX.out.2.2.1; have := HSZ.out; omega, by have := HX.out.2.2.2.1; have := HSZ.out; omega, HX.out.2.2.2.2⟩
    rw [HPG.out]
    exact ⟨HR.out.blk, HR.out.bytes, HR.out.watch.mono (by omega), HR.out.hits.mono (by omega), HR.out.ne, HR.out.len, HR.out.ok⟩
end Go.Proofs.YtlnefmgiiogcmaaGreatDoor
