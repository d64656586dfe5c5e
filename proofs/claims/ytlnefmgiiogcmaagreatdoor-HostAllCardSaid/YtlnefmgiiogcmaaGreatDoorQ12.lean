/- The document's EncodeOf answers as the program's Encode does: the ways of the walk joined. The plain law of lowering, last part: any region's code is right, and ends as its instructions do. No program in sight. The walks of the document's storesOf and CodeFault, at a right code. The walks of ir's CheckOp, out, at any kind. The walk of ir's Check: its loop's test, in a frame of variables. The walk of ir's Check at a right code. Conditions: as each theorem states. -/
import Derived.Test.YtlnefmgiiogcmaaGreatDoorQ11
import Derived.Test.YtlnefmgiiogcmaaGreatDoorQ04
import Derived.Test.YtlnefmgiiogcmaaGreatDoorQ05
import Derived.Test.YtlnefmgiiogcmaaGreatDoorQ08
import Derived.Deep.OwnRows
import Derived.Test.YtlnefmgiiogcmaaGreatDoorQ06
import Derived.Test.YtlnefmgiiogcmaaGreatDoorQ07
import Derived.Deep.MidRow
import Derived.Deep.RegionHeld3
set_option linter.unusedVariables false
set_option linter.unusedSimpArgs false
namespace Go.Proofs.YtlnefmgiiogcmaaGreatDoor
open Go.RowKit
theorem enc_sum (i : InsN) (k : Nat) (hk : k < 54) (hop : i.op = (k : Int)) (m0 : 0 ≤ i.imm) (h : encBad i = false) :
    encL i (fieldsB k) = (fixedN k : Int) + i.s * 2097152 + i.t * 65536 + i.d * 2048 + (if (fieldsB k).contains 97 then i.imm * 64 else i.imm) ∧ wellB i.s ((fieldsB k).contains 83) = true ∧ wellB i.t ((fieldsB k).contains 84) = true ∧ wellB i.d ((fieldsB k).contains 68) = true ∧ i.imm ≤ mostZ (fieldsB k) := by
  have h2 := h
  rw [encBad_eq i k hop m0] at h2
  simp only [Bool.not_eq_false', Bool.and_eq_true, decide_eq_true_eq] at h2
  obtain ⟨⟨⟨hS, hT⟩, hD⟩, hm⟩ := h2
  obtain ⟨g1, _, _⟩ := good_parts i k hop h
  obtain ⟨e1, _, _, _⟩ := enc_parts i k hk hop g1
  refine ⟨?_, hS, hT, hD, hm⟩
  rw [e1, encN_sum i k hk g1]
  obtain ⟨op, s, t, d, m⟩ := i
  simp only at m0
  rcases fields_cases k with e | e | e | e | e | e | e | e | e | e | e | e
  all_goals
    rw [e] at hS hT hD hm
    rw [e]
    simp [wellB, mostZ] at hS hT hD hm
    simp [termN, termF]
    omega
end Go.Proofs.YtlnefmgiiogcmaaGreatDoor
namespace Go.Proofs.YtlnefmgiiogcmaaGreatDoor
open Go.RowKit
abbrev trapB : List UInt8 := [116, 114, 97, 112]
abbrev branchB : List UInt8 := [98, 114, 97, 110, 99, 104]
abbrev storeB : List UInt8 := [115, 116, 111, 114, 101]
def insErr (i : InsN) : Bool := decide (i.op < 1 ∨ 54 ≤ i.op) || encBad i
def okAt (n k : Nat) (i : InsN) : Bool := !insErr i && !decide (kindOfB i.op = trapB) && (!decide (kindOfB i.op = branchB) || decide (k + 2 = n))
def allOk (n : Nat) : List InsN → Nat → Bool
  | [], _ => true
  | i :: l, k => okAt n k i && allOk n l (k + 1)
def storesN (l : List InsN) : Nat := (l.filter fun i => decide (kindOfB i.op = storeB)).length
def regErr (l : List InsN) : Nat := if l = [] then 6 else if 24 < l.length then 2 else if allOk l.length l 0 = true ∧ storesN l ≤ 8 then 0 else 4
theorem allOk_at (n : Nat) : ∀ (l : List InsN) (k : Nat), allOk n l k = true ↔ ∀ j (h : j < l.length), okAt n (k + j) l[j] = true
  | [], k => ⟨fun _ j h => absurd h (Nat.not_lt_zero j), fun _ => rfl⟩
  | i :: l, k => by
    simp only [allOk, Bool.and_eq_true]
    rw [allOk_at n l (k + 1)]
    constructor
    · rintro ⟨h1, h2⟩ j hj
      cases j with
      | zero => exact h1
      | succ j =>
        have := h2 j (by simpa using hj)
        rw [show k + (j + 1) = k + 1 + j by omega]
        exact this
    · intro h
      refine ⟨h 0 (by simp), fun j hj => ?_⟩
      have := h (j + 1) (by simpa using hj)
      rw [show k + 1 + j = k + (j + 1) by omega]
      exact this
theorem storesN_app (a b : List InsN) : storesN (a ++ b) = storesN a + storesN b := by simp [storesN]
theorem kind_p1 : ∀ k, k < 54 → (kindB k = trapB → plainOp k = false ∧ brOp k = false) := by decide +kernel
theorem kind_p2 : ∀ k, k < 54 → (kindB k = branchB ↔ brOp k = true) := by decide +kernel
theorem kind_p3 : ∀ k, k < 54 → (1 ≤ k → (kindB k ≠ trapB → (kindB k ≠ branchB → plainOp k = true))) := by decide +kernel
theorem kind_p4 : ∀ k, k < 54 → (kindB k = storeB ↔ isSt k = true) := by decide +kernel
theorem kind_plain (k : Nat) (h1 : 1 ≤ k) (h2 : k < 54) : (kindB k = trapB → plainOp k = false ∧ brOp k = false) ∧ (kindB k = branchB ↔ brOp k = true) ∧ (kindB k ≠ trapB → kindB k ≠ branchB → plainOp k = true) ∧ (kindB k = storeB ↔ isSt k = true) :=
  ⟨kind_p1 k h2, kind_p2 k h2, kind_p3 k h2 h1, kind_p4 k h2⟩
theorem kindOfB_pos {n : Int} {k : Nat} (h1 : 1 ≤ k) (h : n = (k : Int)) : kindOfB n = kindB k := by
  subst h
  unfold kindOfB
  rw [if_neg (by omega), Int.toNat_natCast]
theorem most_low : ∀ k, k < 54 → (mostZ (fieldsB k) ≤ 67108863 ∧ (plainOp k = true → mostZ (fieldsB k) ≤ 65535)) := by decide +kernel
structure InsR (i : InsN) : Prop where
  op1 : 1 ≤ i.o
  op2 : i.o < 54
  op : i.op = (i.o : Int)
  ok : InsOK i
  sv : i.s = (i.s.toNat : Int)
  tv : i.t = (i.t.toNat : Int)
  dv : i.d = (i.d.toNat : Int)
  m0 : 0 ≤ i.imm
  m1 : i.imm < 67108864
  m2 : plainOp i.o = true → i.imm < 65536
theorem well_le {n : Int} {b : Bool} (h : wellB n b = true) : 0 ≤ n ∧ n < 32 := by
  unfold wellB at h
  simp only [Bool.or_eq_true, Bool.and_eq_true, decide_eq_true_eq] at h
  omega
theorem InsR.of {i : InsN} (h : insErr i = false) (m0 : 0 ≤ i.imm) : InsR i := by
  unfold insErr at h
  simp only [Bool.or_eq_false_iff, decide_eq_false_iff_not] at h
  obtain ⟨h1, h2⟩ := h
  have hop : i.op = (i.op.toNat : Int) := by omega
  obtain ⟨_, w1, w2, w3, w4⟩ := enc_sum i i.op.toNat (by omega) hop m0 h2
  have e1 := well_le w1
  have e2 := well_le w2
  have e3 := well_le w3
  have hm := most_low i.op.toNat (by omega)
  exact ⟨by simp only [InsN.o]; omega, by simp only [InsN.o]; omega, hop, ⟨by omega, by omega, by omega⟩, by omega, by omega, by omega, m0, by have := hm.1; omega, fun hp => by have := hm.2 hp; omega⟩
theorem okAt_parts {n k : Nat} {i : InsN} (h : okAt n k i = true) (m0 : 0 ≤ i.imm) : InsR i ∧ (brOp i.o = true → k + 2 = n) ∧ (brOp i.o = false → plainOp i.o = true) ∧ (kindOfB i.op = storeB ↔ isSt i.o = true) ∧ (kindOfB i.op = branchB ↔ brOp i.o = true) := by
  unfold okAt at h
  simp only [Bool.and_eq_true, Bool.or_eq_true, Bool.not_eq_true', decide_eq_false_iff_not, decide_eq_true_eq] at h
  obtain ⟨⟨h1, h2⟩, h3⟩ := h
  have hR := InsR.of h1 m0
  have hk := kindOfB_pos hR.op1 hR.op
  rw [hk] at h2 h3 ⊢
  obtain ⟨a, b, c, d⟩ := kind_plain i.o hR.op1 hR.op2
  refine ⟨hR, fun hb => ?_, fun hb => ?_, d, b⟩
  · rcases h3 with h3 | h3
    · exact absurd (b.2 hb) h3
    · exact h3
  · refine c h2 (fun e => ?_)
    rw [b.1 e] at hb
    cases hb
def lowAt (pc : Int) (e : Bool) (n : Nat) (i : InsN) (k : Nat) : List OpN :=
  if e = true ∧ k + 2 = n then lowBr pc i.o i.s.toNat i.t.toNat i.d.toNat k else lowIns i.o i.s.toNat i.t.toNat i.d.toNat i.imm k
def lowUpto (pc : Int) (e : Bool) (n : Nat) : List InsN → Nat → List OpN
  | [], _ => []
  | i :: l, k => lowAt pc e n i k ++ lowUpto pc e n l (k + 1)
theorem lowUpto_app (pc : Int) (e : Bool) (n : Nat) : ∀ (a b : List InsN) (k : Nat), lowUpto pc e n (a ++ b) k = lowUpto pc e n a k ++ lowUpto pc e n b (k + a.length)
  | [], b, k => by simp [lowUpto]
  | i :: a, b, k => by
    simp only [List.cons_append, lowUpto, List.append_assoc, List.length_cons]
    rw [lowUpto_app pc e n a b (k + 1), show k + 1 + a.length = k + (a.length + 1) by omega]
def endsB (l : List InsN) : Bool := match l[l.length - 2]? with
  | some i => decide (2 ≤ l.length) && brOp i.o
  | none => false
def lowAll (pc : Int) (l : List InsN) : List OpN := lowUpto pc (endsB l) l.length l 0 ++
  (if endsB l = true then lowLv ((pc + 4 * ((l.length - 2 : Nat) : Int)) % 4294967296) (l[l.length - 2]?.getD ⟨0, 0, 0, 0, 0⟩).o (l[l.length - 2]?.getD ⟨0, 0, 0, 0, 0⟩).imm (l.length - 1)
   else [⟨.out, 0, 0, 0, (pc + 4 * (l.length : Int)) % 4294967296, l.length - 1⟩])
theorem lowUpto_len {pc : Int} {e : Bool} {n : Nat} : ∀ (l : List InsN) (k : Nat), (∀ j (h : j < l.length), PartG (k + j) 3 (if isSt (l[j]).o = true then 1 else 0) (lowAt pc e n l[j] (k + j))) →
    (lowUpto pc e n l k).length ≤ 3 * l.length ∧ storesO (lowUpto pc e n l k) = (l.filter fun i => isSt i.o).length ∧ (∀ o ∈ lowUpto pc e n l k, k ≤ o.at' ∧ o.at' < k + l.length ∧ opG o ∧ Reg32 o.imm ∧ outK o.kind = false) ∧ (lowUpto pc e n l k).Pairwise (fun a b => a.at' ≤ b.at')
  | [], k, _ => ⟨by simp [lowUpto], rfl, fun o ho => (by cases ho), List.Pairwise.nil⟩
  | i :: l, k, h => by
    have h0 := h 0 (by simp)
    simp only [List.getElem_cons_zero, Nat.add_zero] at h0
    obtain ⟨a, b, c, d⟩ := lowUpto_len l (k + 1) (fun j hj => by
      have := h (j + 1) (by simpa using hj)
      simp only [List.getElem_cons_succ] at this
      rw [show k + 1 + j = k + (j + 1) by omega]
      exact this)
    refine ⟨?_, ?_, ?_, ?_⟩
    · simp only [lowUpto, List.length_append, List.length_cons]
      have := h0.len
      omega
    · simp only [lowUpto, storesO_app, h0.st, b, List.filter_cons]
      split
      · rw [List.length_cons]; omega
      · omega
    · intro o ho
      simp only [lowUpto, List.mem_append] at ho
      rcases ho with ho | ho
      · obtain ⟨x1, x2, x3, x4⟩ := h0.all o ho
        exact ⟨by omega, by simp only [List.length_cons]; omega, x2, x3, x4⟩
      · obtain ⟨x1, x2, x3⟩ := c o ho
        exact ⟨by omega, by simp only [List.length_cons]; omega, x3⟩
    · simp only [lowUpto]
      refine List.pairwise_append.2 ⟨List.Pairwise.imp_of_mem (R := fun _ _ => True) (fun {x y} hx hy _ => ?_) (List.pairwise_of_forall (fun _ _ => trivial)), d, fun x hx y hy => ?_⟩
      · rw [(h0.all x hx).1, (h0.all y hy).1]; exact Nat.le_refl _
      · rw [(h0.all x hx).1]; have := (c y hy).1; omega
structure CodeOK (many : Nat) (ops : List OpN) : Prop where
  m0 : 1 ≤ many
  m1 : many ≤ 24
  len : ops.length ≤ 100
  ne : 0 < ops.length
  good : ∀ o ∈ ops, o.at' < many ∧ opG o ∧ Reg32 o.imm
  out : ∀ i (h : i < ops.length), outK ops[i].kind = decide (i + 1 = ops.length)
  sorted : ∀ i (h : i + 1 < ops.length), (ops[i]'(by omega)).at' ≤ ops[i + 1].at'
  st : storesO ops ≤ 8
theorem lvG {op n : Nat} {p m : Int} (hop : brOp op = true) (hm0 : 0 ≤ m) (hm1 : m < 67108864) : ∃ pre last, lowLv p op m n = pre ++ [last] ∧ pre.length ≤ 1 ∧ (∀ o ∈ pre, o.at' = n ∧ opG o ∧ Reg32 o.imm ∧ outK o.kind = false) ∧ storesO pre = 0 ∧ last.at' = n ∧ opG last ∧ Reg32 last.imm ∧ outK last.kind = true ∧ storeK last.kind = false := by
  have hq : Reg32 ((p + 4) % 4294967296 / 268435456 * 268435456 + 4 * m) := by unfold Reg32; omega
  have h1 : op = 7 ∨ op = 8 ∨ op = 29 ∨ op = 30 ∨ op = 31 ∨ op = 32 ∨ op = 33 ∨ op = 34 := by
    unfold brOp at hop
    simpa using hop
  have nn : ∀ o ∈ ([] : List OpN), o.at' = n ∧ opG o ∧ Reg32 o.imm ∧ outK o.kind = false := fun o ho => by cases ho
  rcases h1 with rfl | rfl | rfl | rfl | h1
  · exact ⟨[], _, rfl, by simp, nn, rfl, rfl, ⟨rfl, show 37 < 64 by decide, rfl, rfl⟩, r32_0, rfl, rfl⟩
  · exact ⟨[], _, rfl, by simp, nn, rfl, rfl, ⟨rfl, show 37 < 64 by decide, rfl, rfl⟩, r32_0, rfl, rfl⟩
  · exact ⟨[], _, rfl, by simp, nn, rfl, rfl, ⟨rfl, rfl, rfl⟩, hq, rfl, rfl⟩
  · exact ⟨[], _, rfl, by simp, nn, rfl, rfl, ⟨rfl, rfl, rfl⟩, hq, rfl, rfl⟩
  · have e : lowLv p op m n = [⟨.cond, 0, 36, 0, (p + 4 + wideS m * 4) % 4294967296, n⟩] ++ [⟨.out, 0, 0, 0, (p + 8) % 4294967296, n⟩] := by
      rcases h1 with rfl | rfl | rfl | rfl <;> rfl
    refine ⟨_, _, e, by simp, fun o ho => ?_, rfl, rfl, ⟨rfl, rfl, rfl⟩, r32_mod _, rfl, rfl⟩
    simp only [List.mem_cons, List.not_mem_nil, or_false] at ho
    subst ho
    exact ⟨rfl, ⟨rfl, show 36 < 64 by decide, rfl⟩, r32_mod _, rfl⟩
theorem code_ok {many : Nat} {a : List OpN} {last : OpN} (h0 : 1 ≤ many) (h1 : many ≤ 24) (hl : a.length ≤ 99) (ha : ∀ o ∈ a, o.at' < many ∧ opG o ∧ Reg32 o.imm ∧ outK o.kind = false) (hs : a.Pairwise (fun x y => x.at' ≤ y.at')) (hst : storesO a ≤ 8) (hla : last.at' = many - 1) (hlg : opG last) (hlr : Reg32 last.imm) (hlo : outK last.kind = true) (hls : storeK last.kind = false) : CodeOK many (a ++ [last]) where
  m0 := h0
  m1 := h1
  len := by simp; omega
  ne := by simp
  good o ho := by
    rcases List.mem_append.1 ho with ho | ho
    · exact ⟨(ha o ho).1, (ha o ho).2.1, (ha o ho).2.2.1⟩
    · simp only [List.mem_cons, List.not_mem_nil, or_false] at ho
      subst ho
      exact ⟨by omega, hlg, hlr⟩
  out i h := by
    rw [List.length_append, List.length_cons, List.length_nil] at h ⊢
    by_cases hi : i < a.length
    · rw [List.getElem_append_left hi, (ha _ (List.getElem_mem hi)).2.2.2, decide_eq_false (by omega)]
    · have e : i = a.length := by omega
      subst e
      rw [List.getElem_append_right (Nat.le_refl _)]
      simp [hlo]
  sorted i h := by
    rw [List.length_append, List.length_cons, List.length_nil] at h
    by_cases hi : i + 1 < a.length
    · rw [List.getElem_append_left (show i < a.length by omega), List.getElem_append_left hi]
      exact (List.pairwise_iff_getElem.1 hs) i (i + 1) (by omega) hi (by omega)
    · have e : i + 1 = a.length := by omega
      rw [List.getElem_append_left (show i < a.length by omega), List.getElem_append_right (by omega)]
      simp only [e, Nat.sub_self, List.getElem_cons_zero]
      rw [hla]
      have := (ha _ (List.getElem_mem (show i < a.length by omega))).1
      omega
  st := by
    rw [storesO_app]
    have : storesO [last] = 0 := by simp [storesO, hls]
    omega
theorem reg_parts {l : List InsN} (h : regErr l = 0) (hm : ∀ i ∈ l, 0 ≤ i.imm) : l ≠ [] ∧ l.length ≤ 24 ∧ storesN l ≤ 8 ∧ ∀ j (h : j < l.length), InsR l[j] ∧ (brOp (l[j]).o = true → j + 2 = l.length) ∧ (brOp (l[j]).o = false → plainOp (l[j]).o = true) ∧ (kindOfB (l[j]).op = storeB ↔ isSt (l[j]).o = true) ∧ (kindOfB (l[j]).op = branchB ↔ brOp (l[j]).o = true) := by
  unfold regErr at h
  split at h
  · omega
  · next h1 =>
    split at h
    · omega
    · next h2 =>
      split at h
      · next h3 =>
        refine ⟨h1, by omega, h3.2, fun j hj => ?_⟩
        have := (allOk_at l.length l 0).1 h3.1 j hj
        rw [Nat.zero_add] at this
        exact okAt_parts this (hm _ (List.getElem_mem hj))
      · omega
theorem endsB_at {l : List InsN} (h2 : 2 ≤ l.length) : endsB l = brOp (l[l.length - 2]'(by omega)).o := by
  unfold endsB
  rw [List.getElem?_eq_getElem (by omega)]
  simp only [decide_eq_true h2, Bool.true_and]
theorem endsB_short {l : List InsN} (h2 : l.length < 2) : endsB l = false := by
  unfold endsB
  split
  · rw [decide_eq_false (by omega)]; rfl
  · rfl
theorem low_parts {l : List InsN} {pc : Int} (h : regErr l = 0) (hm : ∀ i ∈ l, 0 ≤ i.imm) : ∀ j (h : j < l.length), PartG (0 + j) 3 (if isSt (l[j]).o = true then 1 else 0) (lowAt pc (endsB l) l.length l[j] (0 + j)) := by
  obtain ⟨h1, h2, h3, h4⟩ := reg_parts h hm
  intro j hj
  obtain ⟨r, b1, b2, _⟩ := h4 j hj
  rw [Nat.zero_add]
  unfold lowAt
  by_cases he : endsB l = true ∧ j + 2 = l.length
  · rw [if_pos he]
    have hb : brOp (l[j]).o = true := by
      have := endsB_at (l := l) (by omega)
      rw [he.1] at this
      have e : l.length - 2 = j := by omega
      simp only [e] at this
      exact this.symm
    have hs : isSt (l[j]).o = false := by
      have hmm : (l[j]).o = 7 ∨ (l[j]).o = 8 ∨ (l[j]).o = 29 ∨ (l[j]).o = 30 ∨ (l[j]).o = 31 ∨ (l[j]).o = 32 ∨ (l[j]).o = 33 ∨ (l[j]).o = 34 := by
        unfold brOp at hb
        simpa using hb
      rcases hmm with e | e | e | e | e | e | e | e <;> rw [e] <;> rfl
    rw [hs, if_neg (by decide)]
    exact brG hb r.ok.s r.ok.t r.ok.d
  · rw [if_neg he]
    have hb : brOp (l[j]).o = false := by
      cases hb : brOp (l[j]).o with
      | false => rfl
      | true =>
        refine absurd ⟨?_, b1 hb⟩ he
        have hj2 := b1 hb
        rw [endsB_at (by omega)]
        have e : l.length - 2 = j := by omega
        simp only [e]
        exact hb
    exact insG (b2 hb) r.ok.s r.ok.t r.ok.d ⟨r.m0, by have := r.m1; omega⟩
theorem stores_eq {l : List InsN} (h : ∀ j (h : j < l.length), (kindOfB (l[j]).op = storeB ↔ isSt (l[j]).o = true)) : storesN l = (l.filter fun i => isSt i.o).length := by
  unfold storesN
  congr 1
  refine List.filter_congr (fun i hi => ?_)
  obtain ⟨j, hj, rfl⟩ := List.getElem_of_mem hi
  have := h j hj
  by_cases e : isSt (l[j]).o = true
  · rw [e, decide_eq_true (this.2 e)]
  · rw [decide_eq_false (fun x => e (this.1 x))]
    simpa using e
theorem lowAll_ok {l : List InsN} {pc : Int} (h : regErr l = 0) (hm : ∀ i ∈ l, 0 ≤ i.imm) : CodeOK l.length (lowAll pc l) := by
  obtain ⟨h1, h2, h3, h4⟩ := reg_parts h hm
  have hlen : 0 < l.length := List.length_pos_iff.2 h1
  obtain ⟨a, b, c, d⟩ := lowUpto_len l 0 (low_parts (pc := pc) h hm)
  have hst : storesO (lowUpto pc (endsB l) l.length l 0) ≤ 8 := by rw [b, ← stores_eq (fun j hj => (h4 j hj).2.2.2.1)]; exact h3
  have c2 : ∀ o ∈ lowUpto pc (endsB l) l.length l 0, o.at' < l.length ∧ opG o ∧ Reg32 o.imm ∧ outK o.kind = false := fun o ho => ⟨by have := (c o ho).2.1; omega, (c o ho).2.2⟩
  unfold lowAll
  by_cases he : endsB l = true
  · rw [if_pos he]
    have hl2 : 2 ≤ l.length := by
      rcases Nat.lt_or_ge l.length 2 with hx | hx
      · rw [endsB_short hx] at he; cases he
      · exact hx
    have hb := (endsB_at hl2).symm.trans he
    have hR := (h4 (l.length - 2) (by omega)).1
    rw [List.getElem?_eq_getElem (by omega), Option.getD_some]
    obtain ⟨pre, last, e, x1, x2, x3, x4, x5, x6, x7, x8⟩ := lvG (n := l.length - 1) (p := (pc + 4 * ((l.length - 2 : Nat) : Int)) % 4294967296) hb hR.m0 hR.m1
    rw [e, ← List.append_assoc]
    refine code_ok (by omega) h2 (by rw [List.length_append]; omega) (fun o ho => ?_) ?_ (by rw [storesO_app]; omega) (by omega) x5 x6 x7 x8
    · rcases List.mem_append.1 ho with ho | ho
      · exact c2 o ho
      · obtain ⟨y1, y2⟩ := x2 o ho
        exact ⟨by omega, y2⟩
    · refine List.pairwise_append.2 ⟨d, ?_, fun x hx y hy => ?_⟩
      · match pre, x1 with
        | [], _ => exact List.Pairwise.nil
        | [z], _ => exact List.pairwise_singleton _ _
      · rw [(x2 y hy).1]; have := (c2 x hx).1; omega
  · rw [if_neg he]
    exact code_ok (by omega) h2 (by omega) c2 d hst rfl ⟨rfl, rfl, rfl⟩ (r32_mod _) rfl rfl
end Go.Proofs.YtlnefmgiiogcmaaGreatDoor
namespace Go.Proofs.YtlnefmgiiogcmaaGreatDoor
open Go.RowKit
structure OpsAt (w : World) (g : Nat) (ops : List OpN) : Prop where
  row : ∀ j (h : j < ops.length), w.rangeAt g (j * 6) (opC ops[j])
  lt : g < w.heap.size
theorem OpsAt.cells {w : World} {g : Nat} {ops : List OpN} (h : OpsAt w g ops) (j : Nat) (hj : j < ops.length) :
    w.cell? ⟨g, j * 6, none⟩ = some (.string (bsl ops[j].kind.text)) ∧ w.cell? ⟨g, j * 6 + 1, none⟩ = some (.int .i64 (ops[j].d : Int)) ∧ w.cell? ⟨g, j * 6 + 2, none⟩ = some (.int .i64 (ops[j].a : Int)) ∧ w.cell? ⟨g, j * 6 + 3, none⟩ = some (.int .i64 ops[j].b) ∧ w.cell? ⟨g, j * 6 + 4, none⟩ = some (.int .u32 ops[j].imm) ∧ w.cell? ⟨g, j * 6 + 5, none⟩ = some (.int .i64 (ops[j].at' : Int)) :=
  ⟨h.row j hj 0 _ rfl, h.row j hj 1 _ rfl, h.row j hj 2 _ rfl, h.row j hj 3 _ rfl, h.row j hj 4 _ rfl, h.row j hj 5 _ rfl⟩
theorem OpsAt.of_block {w w' : World} {g : Nat} {ops : List OpN} (h : OpsAt w g ops) (e : w'.heap[g]? = w.heap[g]?) : OpsAt w' g ops where
  row j hj c u hu := by
    have := h.row j hj c u hu
    unfold World.cell? at this ⊢
    simp only at this ⊢
    rw [e]
    exact this
  lt := by
    have h1 := Array.getElem?_eq_getElem h.lt
    rw [h1] at e
    exact (Array.getElem?_eq_some_iff.1 e).1
theorem OpsAt.below {w w' : World} {g B : Nat} {ops : List OpN} (h : OpsAt w g ops) (hb : Below B w w') (hg : g < B) : OpsAt w' g ops := h.of_block (hb.block g hg)
theorem flat6 : ∀ (L : List OpN) (j : Nat) (h : j < L.length) (c : Nat), c < 6 → (L.flatMap opC)[j * 6 + c]? = (opC L[j])[c]?
  | [], j, h, c, hc => absurd h (Nat.not_lt_zero j)
  | i :: t, 0, h, c, hc => by
    rw [List.flatMap_cons, List.getElem?_append_left (by simp [opC]; omega)]
    simp
  | i :: t, j + 1, h, c, hc => by
    rw [List.flatMap_cons, List.getElem?_append_right (by simp [opC]; omega)]
    have := flat6 t j (by simpa using h) c hc
    simp only [opC, List.length_cons, List.length_nil, List.getElem_cons_succ] at this ⊢
    rw [← this]
    congr 1
    omega
theorem opsAt_own {w : World} {B : Nat} {v : Value} {ops : List OpN} (h : w.ownsRow B 61 6 v ops.length (ops.flatMap opC)) (hn : 0 < ops.length) :
    ∃ g cap, v = .slice (some ⟨g, 0, none⟩) ops.length cap ∧ B ≤ g ∧ ops.length ≤ cap ∧ OpsAt w g ops := by
  obtain ⟨hl, h' | ⟨g, cap, cur, hv, hg, hh, hc, _⟩⟩ := id h
  · exact absurd h'.2 (by omega)
  · refine ⟨g, cap, hv, hg, hc, fun j hj c u hu => ?_, (Array.getElem?_eq_some_iff.1 hh).1⟩
    have hc5 : c < 6 := by simpa [opC] using (List.getElem?_eq_some_iff.1 hu).1
    have := h.cells (show v.ownBlock = some g by rw [hv]; rfl) (j * 6 + c) u (by rw [flat6 ops j hj c hc5]; exact hu)
    have ha : (⟨g, 0, none⟩ : Addr).add (j * 6 + c) = ⟨g, j * 6 + c, none⟩ := by
      unfold Addr.add
      simp
      omega
    rw [ha] at this
    exact this
theorem text_ne {k : OpK} (h : k ≠ .store) : ((bsl k.text).toList == [115, 116, 111, 114, 101]) = false := by
  cases k <;> first | exact absurd rfl h | decide +kernel
theorem storesO_take (ops : List OpN) (j : Nat) (h : j < ops.length) : storesO (ops.take (j + 1)) = storesO (ops.take j) + (if storeK ops[j].kind = true then 1 else 0) := by
  rw [List.take_add_one, storesO_app, List.getElem?_eq_getElem h]
  congr 1
  unfold storesO
  by_cases e : storeK ops[j].kind = true
  · rw [if_pos e]; simp [e]
  · rw [if_neg e]; simp [e]
abbrev Duo (w : World) (b : Nat) (t : TypeId) (a0 a1 : Value) : Prop := w.heap[b]? = some (.cells #[a0, a1] t (0, 0))
theorem Duo.cells {w : World} {b : Nat} {t : TypeId} {a0 a1 : Value} (h : Duo w b t a0 a1) : w.cell? ⟨b, 0, none⟩ = some a0 ∧ w.cell? ⟨b, 1, none⟩ = some a1 ∧ w.frozen? ⟨b, 0, none⟩ = false ∧ w.frozen? ⟨b, 1, none⟩ = false := by
  unfold Duo at h
  refine ⟨?_, ?_, ?_, ?_⟩ <;> simp [World.cell?, World.frozen?, h]
abbrev fill2 (w : World) (b : Nat) (v0 v1 : Value) : World := (w.setCell ⟨b, 0, none⟩ v0).setCell ⟨b, 1, none⟩ v1
theorem Duo.fill {w : World} {b : Nat} {t : TypeId} {a0 a1 : Value} (h : Duo w b t a0 a1) (v0 v1 : Value) : Duo (fill2 w b v0 v1) b t v0 v1 := Joins.block_setCell (Joins.block_setCell h v0) v1
end Go.Proofs.YtlnefmgiiogcmaaGreatDoor
namespace Go.Proofs.YtlnefmgiiogcmaaGreatDoor
open Go.RowKit
theorem hasL_ne (k : OpK) : (hasL k).toList.isEmpty = false := by cases k <;> decide +kernel
set_option maxHeartbeats 4000000 in
set_option maxRecDepth 100000 in
theorem irCheckOp_at {many : Nat} {d a n : Nat} {b im mx : Int} (k : OpK) (hg : opG ⟨k, d, a, b, im, n⟩) (w : World) (hn : n < many) (hm : w.cell? ⟨8, 0, none⟩ = some (.int .i64 mx)) :
    Calls Tryz.prog 45 #[.agg #[.string k.lit, .int .i64 (d : Int), .int .i64 (a : Int), .int .i64 b, .int .u32 im, .int .i64 (n : Int)], .int .i64 (many : Int)] w fun e w' => e = .returned .nilIface ∧ Below w.heap.size w w' := by
  have hb' := (Below.refl w.heap.size w).alloc (Nat.le_refl _) (.cells #[.string k.lit, .int .i64 (d : Int), .int .i64 (a : Int), .int .i64 b, .int .u32 im, .int .i64 (n : Int)] 61)
  have HMX := Lib.hid ((hb'.cell (p := ⟨8, 0, none⟩) (World.block_lt_of_cell? _ _ hm)).trans hm)
  have HML := Lib.hid (World.block_lt_of_cell? _ _ hm)
  have HRG := Lib.hid (fun wx (hx : wx.cell? ⟨8, 0, none⟩ = some (.int .i64 mx)) => irRegs_any k hg wx hx)
  have HBY := Lib.hid (fun wx => irBytes_any k hg wx)
  have HBR := Lib.hid (fun wx (hx : wx.cell? ⟨8, 0, none⟩ = some (.int .i64 mx)) => irBare_any k hg wx hx)
  have hbx : Hid ((w.alloc (.cells #[.string k.lit, .int .i64 (d : Int), .int .i64 (a : Int), .int .i64 b, .int .u32 im, .int .i64 (n : Int)] 61)).heap[w.heap.size]? = some (.cells #[.string k.lit, .int .i64 (d : Int), .int .i64 (a : Int), .int .i64 b, .int .u32 im, .int .i64 (n : Int)] 61 (0, 0))) := Lib.hid (heap_alloc_new w _)
  have HSZ : Hid (w.heap.size < (w.alloc (.cells #[.string k.lit, .int .i64 (d : Int), .int .i64 (a : Int), .int .i64 b, .int .u32 im, .int .i64 (n : Int)] 61)).heap.size) := Lib.hid (by simp)
  have HB := Lib.hid hb'
  have HH := Lib.hid (irHas_any k)
  have hne := hasL_ne k
  have hnI : (n : Int) < (many : Int) := by omega
  have hnn : decide ((many : Int) ≤ (n : Int)) = false := decide_eq_false (by omega)
  clear hb' hm hn hg
  generalize k.lit = kl at *
  generalize hasL k = fl at *
  go_enter Tryz.func45, Tryz.ntmps45
  go_wp2_with fail
  refine (HH.out _).mono ?_
  rintro e w1 ⟨rfl, rfl⟩
  go_wp2_with fail
  generalize w.alloc (.cells #[.string kl, .int .i64 (d : Int), .int .i64 (a : Int), .int .i64 b, .int .u32 im, .int .i64 (n : Int)] 61) = W at *
  refine (HRG.out _ HMX.out).mono ?_
  rintro e w1 ⟨rfl, h1⟩
  have HX1 := Lib.hid ((h1.block _ HSZ.out).trans hbx.out)
  obtain ⟨c0, c1, c2, c3, c4, c5⟩ := six_cells HX1.out
  have HB1 := Lib.hid (HB.out.trans (h1.mono HB.out.size))
  have HM1 := Lib.hid ((h1.cell (p := ⟨8, 0, none⟩) (Nat.lt_trans HML.out HSZ.out)).trans HMX.out)
  have HS1 := Lib.hid (Nat.lt_of_lt_of_le HSZ.out h1.size)
  clear h1 hbx HMX HSZ HB
  go_wp2_with fail
  refine (HBY.out _).mono ?_
  rintro e w2 ⟨rfl, h1⟩
  clear c0 c1 c2 c3 c4 c5
  have HX2 := Lib.hid ((h1.block _ HS1.out).trans HX1.out)
  obtain ⟨c0, c1, c2, c3, c4, c5⟩ := six_cells HX2.out
  have HB2 := Lib.hid (HB1.out.trans (h1.mono HB1.out.size))
  have HM2 := Lib.hid ((h1.cell (p := ⟨8, 0, none⟩) (Nat.lt_trans HML.out HS1.out)).trans HM1.out)
  clear h1 HX1 HM1 HB1 HS1
  go_wp2_with fail
  refine (HBR.out _ HM2.out).mono ?_
  rintro e w3 ⟨rfl, h1⟩
  have HB3 := Lib.hid (HB2.out.trans (h1.mono HB2.out.size))
  clear c0 c1 c2 c3 c4 c5 h1
  go_wp2
  go_ret
  exact ⟨rfl, HB3.out⟩
abbrev opV (o : OpN) : Value := opA (bsl o.kind.text) o.d o.a o.b o.imm o.at'
theorem irCheckOp_any {o : OpN} {many : Nat} {mx : Int} (hg : opG o) (hn : o.at' < many) (w : World) (hm : w.cell? ⟨8, 0, none⟩ = some (.int .i64 mx)) :
    Calls Tryz.prog 45 #[opV o, .int .i64 (many : Int)] w fun e w' => e = .returned .nilIface ∧ Below w.heap.size w w' := by
  rw [opV, lit_text]
  exact irCheckOp_at o.kind hg w hn hm
theorem irOut_any (o : OpN) (w : World) : Calls Tryz.prog 44 #[opV o] w fun e w' => e = .returned (.bool (outK o.kind)) ∧ Below w.heap.size w w' := by
  obtain ⟨k, d, a, b, im, n⟩ := o
  rw [opV, lit_text]
  have HB := Lib.hid ((Below.refl w.heap.size w).alloc (Nat.le_refl _) (.cells #[.string k.lit, .int .i64 (d : Int), .int .i64 (a : Int), .int .i64 b, .int .u32 im, .int .i64 (n : Int)] 61))
  cases k <;> simp only [OpK.lit, outK] at HB ⊢ <;> (go_enter Tryz.func44, Tryz.ntmps44; go_wp2; go_ret; exact ⟨rfl, HB.out⟩)
set_option maxHeartbeats 4000000 in
set_option maxRecDepth 100000 in
theorem irStores_any {w : World} {g cap : Nat} {ops : List OpN} (h : OpsAt w g ops) (hl : ops.length ≤ 100) :
    Calls Tryz.prog 43 #[.slice (some ⟨g, 0, none⟩) ops.length cap] w fun e w' => e = .returned (.int .i64 (storesO ops : Int)) ∧ Below w.heap.size w w' := by
  have HO := Lib.hid h
  have hl2 : (ops.length : Int) ≤ 100 := by omega
  have HL := Lib.hid hl
  clear h hl
  go_enter Tryz.func43, Tryz.ntmps43
  go_wp2_with fail
  go_loopw [3, 8] (fun s i wr => ∃ j : Nat, j ≤ ops.length ∧ s = .int .i64 (storesO (ops.take j) : Int) ∧ i = .int .i64 (j : Int) ∧ Hid (Below w.heap.size w wr)) (fun _ i _ => ops.length - (intOf i).toNat)
  case atStart => exact ⟨0, Nat.zero_le _, rfl, rfl, Lib.hid (Below.refl _ _)⟩
  case round =>
    obtain ⟨j, hj, rfl, rfl, HB⟩ := hrel
    by_cases hlt : j < ops.length
    · obtain ⟨c0, c1, c2, c3, c4, c5⟩ := (HO.out.below HB.out HO.out.lt).cells j hlt
      have hjI : (j : Int) < (ops.length : Int) := by omega
      have hs0 : storesO (ops.take j) ≤ 100 := by
        have h1 : storesO (ops.take j) ≤ (ops.take j).length := List.length_filter_le _ _
        have h2 : (ops.take j).length ≤ ops.length := by rw [List.length_take]; omega
        have := HL.out
        omega
      have hs1 : (storesO (ops.take j) : Int) ≤ 100 := by omega
      have hs2 : (0 : Int) ≤ (storesO (ops.take j) : Int) := by omega
      have HT := Lib.hid (storesO_take ops j hlt)
      have HJ := Lib.hid hlt
      clear hs0
      by_cases hk : (ops[j]'hlt).kind = .store
      · have HT2 : Hid ((storesO (ops.take (j + 1)) : Int) = (storesO (ops.take j) : Int) + 1) := by
          show _ = _
          have := HT.out
          rw [hk, if_pos (show storeK OpK.store = true from rfl)] at this
          omega
        rw [hk] at c0
        have c0' : wr.cell? ⟨g, j * 6, none⟩ = some (.string ⟨#[115, 116, 111, 114, 101]⟩) := c0
        clear c0 hk HT
        generalize storesO (ops.take j) = s0 at *
        generalize (ops[j]'hlt).d = q1 at *
        generalize (ops[j]'hlt).a = q2 at *
        generalize (ops[j]'hlt).b = q3 at *
        generalize (ops[j]'hlt).imm = q4 at *
        generalize (ops[j]'hlt).at' = q5 at *
        have HB2 := Lib.hid (fun o => HB.out.alloc HB.out.size o)
        go_wp2
        go_roundw
        case rel => exact ⟨j + 1, HJ.out, by rw [HT2.out], by go_num, Lib.hid (HB2.out _)⟩
        case measure => have := HJ.out; go_light; simp [intOf]; omega
      · have HT2 : Hid ((storesO (ops.take (j + 1)) : Int) = (storesO (ops.take j) : Int)) := by
          show _ = _
          have := HT.out
          rw [if_neg (by cases hh : (ops[j]'hlt).kind <;> first | exact absurd hh hk | decide)] at this
          omega
        have n1 := text_ne hk
        clear hk HT
        generalize bsl (ops[j]'hlt).kind.text = kt at *
        generalize storesO (ops.take j) = s0 at *
        generalize (ops[j]'hlt).d = q1 at *
        generalize (ops[j]'hlt).a = q2 at *
        generalize (ops[j]'hlt).b = q3 at *
        generalize (ops[j]'hlt).imm = q4 at *
        generalize (ops[j]'hlt).at' = q5 at *
        have HB2 := Lib.hid (fun o => HB.out.alloc HB.out.size o)
        go_wp2
        go_roundw
        case rel => exact ⟨j + 1, HJ.out, by rw [HT2.out], by go_num, Lib.hid (HB2.out _)⟩
        case measure => have := HJ.out; go_light; simp [intOf]; omega
    · obtain rfl : j = ops.length := by omega
      have HE : Hid (ops.take ops.length = ops) := Lib.hid (List.take_length)
      go_wp2
      go_ret
      exact ⟨by rw [HE.out]; rfl, HB.out⟩
end Go.Proofs.YtlnefmgiiogcmaaGreatDoor
namespace Go.Proofs.YtlnefmgiiogcmaaGreatDoor
open Go.RowKit List
def regAtC (n : Nat) : Code → Option Code
  | .region k ops m => if k == n then some (.region k ops m) else none
  | .seq a b => match regAtC n a with
    | some c => some c
    | none => regAtC n b
  | .block _ c => regAtC n c
  | .cond _ a b => match regAtC n a with
    | some c => some c
    | none => regAtC n b
  | .loop c => regAtC n c
  | _ => none
noncomputable def regC (n : Nat) (f : Func) : Code := ((f.body.bind (regAtC n)).getD .skip)
section
variable {P : Program} {md : Region.Mode} {ops : Array Oper} {S : World → Prop} {Q : Exit → Act → World → Prop}
theorem tkU (i : Nat) {oi : Oper} {fuel : Nat} {listed : Array Bool} {a : Act} {w : World} (hS : S w) (h : wpAnyH P md ops Q S fuel (listed.setIfInBounds i true) (a.put oi.dst undef) w) (hi : ops[i]? = some oi := by rfl)
    (hs : Region.noSelect ops = true := by kernel_rfl) (hf : Region.free md ops listed i = true := by kernel_rfl) (hr : (Region.ready md ops listed).contains i = true := by kernel_rfl)
    (hQ : ∀ c a w, Q (.panic c) (a.put oi.dst undef) w → Q (.panic c) a w := by exact fun _ _ _ hx => hx) (hw : Region.wanted oi (yielded ops a.tmps) = false := by kernel_rfl) : wpAnyH P md ops Q S (fuel + 1) listed a w :=
  wpAnyH_take hi hs hf hr hQ (Or.inr ⟨hw, rfl⟩) hS h
theorem tkW (i : Nat) {oi : Oper} {v : Value} {fuel : Nat} {listed : Array Bool} {a : Act} {w : World} (hy : ∀ w, S w → (execOp a.eval oi).run P w = .ok (.value v) w) (hS : S w) (h : wpAnyH P md ops Q S fuel (listed.setIfInBounds i true) (a.put oi.dst v) w) (hi : ops[i]? = some oi := by rfl)
    (hs : Region.noSelect ops = true := by kernel_rfl) (hf : Region.free md ops listed i = true := by kernel_rfl) (hr : (Region.ready md ops listed).contains i = true := by kernel_rfl)
    (hQ : ∀ c a w, Q (.panic c) (a.put oi.dst v) w → Q (.panic c) a w := by exact fun _ _ _ hx => hx) (hw : Region.wanted oi (yielded ops a.tmps) = true := by kernel_rfl) : wpAnyH P md ops Q S (fuel + 1) listed a w :=
  wpAnyH_take hi hs hf hr hQ (Or.inl ⟨hw, hy⟩) hS h
end
set_option maxHeartbeats 4000000 in
set_option maxRecDepth 100000 in
theorem ck_first_mid {w : World} {K : Act → World → Prop} {cb ob n g cap m j otm : Nat} {kt : ByteArray} {od1 oa1 ot1 : Nat} {ob1 oi1 : Int} (v0 v2 v7 v8 v9 v10 v11 v12 v13 v14 v15 v16 v17 v18 v19 v20 v21 v22 v23 v24 v25 v26 v27 v28 v29 v30 v31 v32 v33 v34 v35 v36 v37 v38 v39 v40 v41 v42 v43 v44 v45 v46 v47 v48 v49 v50 v51 v52 v53 v54 v55 v56 v57 v58 v59 v60 v61 v62 v63 v64 v65 v66 v67 v68 v69 v70 v71 v72 v73 v74 v75 v76 v77 v78 v79 v80 v81 v82 v83 v84 v85 v86 v87 v88 v89 v90 v91 v92 : Value)
    (e0 : w.cell? ⟨ob, 0, none⟩ = some (.string kt)) (e1 : w.cell? ⟨ob, 1, none⟩ = some (.int .i64 (od1 : Int))) (e2 : w.cell? ⟨ob, 2, none⟩ = some (.int .i64 (oa1 : Int))) (e3 : w.cell? ⟨ob, 3, none⟩ = some (.int .i64 ob1)) (e4 : w.cell? ⟨ob, 4, none⟩ = some (.int .u32 oi1)) (e5 : w.cell? ⟨ob, 5, none⟩ = some (.int .i64 (ot1 : Int)))
    (HI : Hid (∀ wx, Calls Tryz.prog 44 #[opA kt od1 oa1 ob1 oi1 ot1] wx fun e w' => e = .returned (.bool false) ∧ Below wx.heap.size wx w'))
    (hQ : Hid (∀ (u56 u57 u58 u59 u60 u61 u62 u63 u64 u65 u66 u67 u68 u69 u70 u71 u72 u73 u74 u75 u76 u77 u78 u79 u80 u81 u82 : Value) w', Below w.heap.size w w' → K ⟨#[v0, .pointer (some ⟨cb, 0, none⟩), v2, .int .i64 (n : Int), .int .i64 (0), .pointer (some ⟨ob, 0, none⟩), .nilIface, v7, v8, v9, v10, v11, v12, v13, v14, v15, v16, v17, v18, v19, v20, v21, v22, v23, v24, v25, v26, v27, v28, v29, v30, v31, v32, v33, v34, v35, v36, v37, v38, v39, v40, v41, v42, v43, v44, v45, v46, v47, v48, v49, v50, v51, v52, v53, v54, v55, u56, u57, u58, u59, u60, u61, u62, u63, u64, u65, u66, u67, u68, u69, u70, u71, u72, u73, u74, u75, u76, u77, u78, u79, u80, u81, u82, .bool false, v84, v85, v86, v87, v88, v89, v90, v91, v92], []⟩ w')) :
    Code.wp Tryz.prog (regC 12 Tryz.f22) (Exit.then K (fun _ _ _ => False)) ⟨#[v0, .pointer (some ⟨cb, 0, none⟩), v2, .int .i64 (n : Int), .int .i64 (0), .pointer (some ⟨ob, 0, none⟩), .nilIface, v7, v8, v9, v10, v11, v12, v13, v14, v15, v16, v17, v18, v19, v20, v21, v22, v23, v24, v25, v26, v27, v28, v29, v30, v31, v32, v33, v34, v35, v36, v37, v38, v39, v40, v41, v42, v43, v44, v45, v46, v47, v48, v49, v50, v51, v52, v53, v54, v55, v56, v57, v58, v59, v60, v61, v62, v63, v64, v65, v66, v67, v68, v69, v70, v71, v72, v73, v74, v75, v76, v77, v78, v79, v80, v81, v82, v83, v84, v85, v86, v87, v88, v89, v90, v91, v92], []⟩ w := by
  conv => arg 2; whnf
  refine wp_region_held_drew (S := fun w' => (w'.cell? ⟨ob, 0, none⟩ = some (.string kt) ∧ w'.cell? ⟨ob, 1, none⟩ = some (.int .i64 (od1 : Int)) ∧ w'.cell? ⟨ob, 2, none⟩ = some (.int .i64 (oa1 : Int)) ∧ w'.cell? ⟨ob, 3, none⟩ = some (.int .i64 ob1) ∧ w'.cell? ⟨ob, 4, none⟩ = some (.int .u32 oi1) ∧ w'.cell? ⟨ob, 5, none⟩ = some (.int .i64 (ot1 : Int)) ∧ Below w.heap.size w w')) (by kernel_rfl) ?_ (fun hHeld => ?_)
  · exact ⟨e0, e1, e2, e3, e4, e5, (Below.refl _ _).drew⟩
  refine tkW 0 (v := ?_) ?_ (by assumption) ?_
  rotate_left
  · (intro wq hSq; (try dsimp only at hSq); go_simp; try with_reducible rfl)
  (try simp only [getElem_toArray, getElem_cons_succ, getElem_cons_zero, Act.put, setIfInBounds_toArray, set_cons_zero, set_cons_succ])
  refine tkW 1 (v := ?_) ?_ (by assumption) ?_
  rotate_left
  · (intro wq hSq; (try dsimp only at hSq); go_simp; try with_reducible rfl)
  (try simp only [getElem_toArray, getElem_cons_succ, getElem_cons_zero, Act.put, setIfInBounds_toArray, set_cons_zero, set_cons_succ])
  refine tkW 2 (v := ?_) ?_ (by assumption) ?_
  rotate_left
  · (intro wq hSq; (try dsimp only at hSq); go_simp; try with_reducible rfl)
  (try simp only [getElem_toArray, getElem_cons_succ, getElem_cons_zero, Act.put, setIfInBounds_toArray, set_cons_zero, set_cons_succ])
  refine tkW 3 (v := ?_) ?_ (by assumption) ?_
  rotate_left
  · (intro wq hSq; (try dsimp only at hSq); go_simp; try with_reducible rfl)
  (try simp only [getElem_toArray, getElem_cons_succ, getElem_cons_zero, Act.put, setIfInBounds_toArray, set_cons_zero, set_cons_succ])
  refine tkW 4 (v := ?_) ?_ (by assumption) ?_
  rotate_left
  · (intro wq hSq; (try dsimp only at hSq); go_simp; try with_reducible rfl)
  (try simp only [getElem_toArray, getElem_cons_succ, getElem_cons_zero, Act.put, setIfInBounds_toArray, set_cons_zero, set_cons_succ])
  refine tkW 5 (v := ?_) ?_ (by assumption) ?_
  rotate_left
  · (intro wq hSq; (try dsimp only at hSq); go_simp; try with_reducible rfl)
  (try simp only [getElem_toArray, getElem_cons_succ, getElem_cons_zero, Act.put, setIfInBounds_toArray, set_cons_zero, set_cons_succ])
  refine tkU 6 (by assumption) ?_
  (try simp only [getElem_toArray, getElem_cons_succ, getElem_cons_zero, Act.put, setIfInBounds_toArray, set_cons_zero, set_cons_succ])
  refine tkU 7 (by assumption) ?_
  (try simp only [getElem_toArray, getElem_cons_succ, getElem_cons_zero, Act.put, setIfInBounds_toArray, set_cons_zero, set_cons_succ])
  refine tkU 8 (by assumption) ?_
  (try simp only [getElem_toArray, getElem_cons_succ, getElem_cons_zero, Act.put, setIfInBounds_toArray, set_cons_zero, set_cons_succ])
  refine tkU 9 (by assumption) ?_
  (try simp only [getElem_toArray, getElem_cons_succ, getElem_cons_zero, Act.put, setIfInBounds_toArray, set_cons_zero, set_cons_succ])
  refine tkU 10 (by assumption) ?_
  (try simp only [getElem_toArray, getElem_cons_succ, getElem_cons_zero, Act.put, setIfInBounds_toArray, set_cons_zero, set_cons_succ])
  refine tkU 11 (by assumption) ?_
  (try simp only [getElem_toArray, getElem_cons_succ, getElem_cons_zero, Act.put, setIfInBounds_toArray, set_cons_zero, set_cons_succ])
  refine tkU 12 (by assumption) ?_
  (try simp only [getElem_toArray, getElem_cons_succ, getElem_cons_zero, Act.put, setIfInBounds_toArray, set_cons_zero, set_cons_succ])
  refine tkU 13 (by assumption) ?_
  (try simp only [getElem_toArray, getElem_cons_succ, getElem_cons_zero, Act.put, setIfInBounds_toArray, set_cons_zero, set_cons_succ])
  refine tkU 14 (by assumption) ?_
  (try simp only [getElem_toArray, getElem_cons_succ, getElem_cons_zero, Act.put, setIfInBounds_toArray, set_cons_zero, set_cons_succ])
  refine tkU 15 (by assumption) ?_
  (try simp only [getElem_toArray, getElem_cons_succ, getElem_cons_zero, Act.put, setIfInBounds_toArray, set_cons_zero, set_cons_succ])
  refine tkW 16 (v := ?_) ?_ (by assumption) ?_
  rotate_left
  · (intro wq hSq; (try dsimp only at hSq); go_simp; try with_reducible rfl)
  (try simp only [getElem_toArray, getElem_cons_succ, getElem_cons_zero, Act.put, setIfInBounds_toArray, set_cons_zero, set_cons_succ])
  refine tkW 17 (v := ?_) ?_ (by assumption) ?_
  rotate_left
  · (intro wq hSq; (try dsimp only at hSq); go_simp; try with_reducible rfl)
  (try simp only [getElem_toArray, getElem_cons_succ, getElem_cons_zero, Act.put, setIfInBounds_toArray, set_cons_zero, set_cons_succ])
  refine tkW 18 (v := ?_) ?_ (by assumption) ?_
  rotate_left
  · (intro wq hSq; (try dsimp only at hSq); go_simp; try with_reducible rfl)
  (try simp only [getElem_toArray, getElem_cons_succ, getElem_cons_zero, Act.put, setIfInBounds_toArray, set_cons_zero, set_cons_succ])
  refine wpAnyH_ready (rs := [19]) (by kernel_rfl) (by simp) ?_
  refine AllReadyH.cons rfl (fun K9 hK9 => ?_) AllReadyH.nil
  go_simp
  refine (HI.out _).mono ?_
  rintro e w2 ⟨rfl, hb9⟩
  refine hK9.out _ _ ?_ (fun hHeld2 => ?_)
  · (try dsimp only at hHeld)
    go_split_ands
    refine ⟨?_, ?_, ?_, ?_, ?_, ?_, ?_⟩ <;> (first | assumption | (rw [hb9.cell (World.block_lt_of_cell? _ _ (by assumption))]; assumption) | exact Below.trans (by assumption) (hb9.mono (Below.size (by assumption))))
  clear hK9 K9
  (try simp only [getElem_toArray, getElem_cons_succ, getElem_cons_zero, Act.put, setIfInBounds_toArray, set_cons_zero, set_cons_succ])
  refine tkW 20 (v := ?_) ?_ (by assumption) ?_
  rotate_left
  · (intro wq hSq; (try dsimp only at hSq); go_simp; try with_reducible rfl)
  (try simp only [getElem_toArray, getElem_cons_succ, getElem_cons_zero, Act.put, setIfInBounds_toArray, set_cons_zero, set_cons_succ])
  refine tkU 21 (by assumption) ?_
  (try simp only [getElem_toArray, getElem_cons_succ, getElem_cons_zero, Act.put, setIfInBounds_toArray, set_cons_zero, set_cons_succ])
  refine tkU 22 (by assumption) ?_
  (try simp only [getElem_toArray, getElem_cons_succ, getElem_cons_zero, Act.put, setIfInBounds_toArray, set_cons_zero, set_cons_succ])
  refine tkU 23 (by assumption) ?_
  (try simp only [getElem_toArray, getElem_cons_succ, getElem_cons_zero, Act.put, setIfInBounds_toArray, set_cons_zero, set_cons_succ])
  refine tkU 24 (by assumption) ?_
  (try simp only [getElem_toArray, getElem_cons_succ, getElem_cons_zero, Act.put, setIfInBounds_toArray, set_cons_zero, set_cons_succ])
  refine tkW 25 (v := ?_) ?_ (by assumption) ?_
  rotate_left
  · (intro wq hSq; (try dsimp only at hSq); go_simp; try with_reducible rfl)
  (try simp only [getElem_toArray, getElem_cons_succ, getElem_cons_zero, Act.put, setIfInBounds_toArray, set_cons_zero, set_cons_succ])
  refine tkW 26 (v := ?_) ?_ (by assumption) ?_
  rotate_left
  · (intro wq hSq; (try dsimp only at hSq); go_simp; try with_reducible rfl)
  (try simp only [getElem_toArray, getElem_cons_succ, getElem_cons_zero, Act.put, setIfInBounds_toArray, set_cons_zero, set_cons_succ])
  refine tkW 27 (v := ?_) ?_ (by assumption) ?_
  rotate_left
  · (intro wq hSq; (try dsimp only at hSq); go_simp; try with_reducible rfl)
  (try simp only [getElem_toArray, getElem_cons_succ, getElem_cons_zero, Act.put, setIfInBounds_toArray, set_cons_zero, set_cons_succ])
  refine wpAnyH_done (by kernel_rfl) ?_ _
  exact hQ.out _ _ _ _ _ _ _ _ _ _ _ _ _ _ _ _ _ _ _ _ _ _ _ _ _ _ _ _ hHeld2.2.2.2.2.2.2
set_option maxHeartbeats 4000000 in
set_option maxRecDepth 100000 in
theorem ck_first_last {w : World} {K : Act → World → Prop} {cb ob n g cap m j otm : Nat} {kt : ByteArray} {od1 oa1 ot1 : Nat} {ob1 oi1 : Int} (v0 v2 v7 v8 v9 v10 v11 v12 v13 v14 v15 v16 v17 v18 v19 v20 v21 v22 v23 v24 v25 v26 v27 v28 v29 v30 v31 v32 v33 v34 v35 v36 v37 v38 v39 v40 v41 v42 v43 v44 v45 v46 v47 v48 v49 v50 v51 v52 v53 v54 v55 v56 v57 v58 v59 v60 v61 v62 v63 v64 v65 v66 v67 v68 v69 v70 v71 v72 v73 v74 v75 v76 v77 v78 v79 v80 v81 v82 v83 v84 v85 v86 v87 v88 v89 v90 v91 v92 : Value)
    (e0 : w.cell? ⟨ob, 0, none⟩ = some (.string kt)) (e1 : w.cell? ⟨ob, 1, none⟩ = some (.int .i64 (od1 : Int))) (e2 : w.cell? ⟨ob, 2, none⟩ = some (.int .i64 (oa1 : Int))) (e3 : w.cell? ⟨ob, 3, none⟩ = some (.int .i64 ob1)) (e4 : w.cell? ⟨ob, 4, none⟩ = some (.int .u32 oi1)) (e5 : w.cell? ⟨ob, 5, none⟩ = some (.int .i64 (ot1 : Int)))
    (hln : (n : Int) - 1 = 0) (HI : Hid (∀ wx, Calls Tryz.prog 44 #[opA kt od1 oa1 ob1 oi1 ot1] wx fun e w' => e = .returned (.bool true) ∧ Below wx.heap.size wx w'))
    (hQ : Hid (∀ (u56 u57 u58 u59 u60 u61 u62 u63 u64 u65 u66 u67 u68 u69 u70 u71 u72 u73 u74 u75 u76 u77 u78 u79 u80 u81 u82 : Value) w', Below w.heap.size w w' → K ⟨#[v0, .pointer (some ⟨cb, 0, none⟩), v2, .int .i64 (n : Int), .int .i64 (0), .pointer (some ⟨ob, 0, none⟩), .nilIface, v7, v8, v9, v10, v11, v12, v13, v14, v15, v16, v17, v18, v19, v20, v21, v22, v23, v24, v25, v26, v27, v28, v29, v30, v31, v32, v33, v34, v35, v36, v37, v38, v39, v40, v41, v42, v43, v44, v45, v46, v47, v48, v49, v50, v51, v52, v53, v54, v55, u56, u57, u58, u59, u60, u61, u62, u63, u64, u65, u66, u67, u68, u69, u70, u71, u72, u73, u74, u75, u76, u77, u78, u79, u80, u81, u82, .bool false, v84, v85, v86, v87, v88, v89, v90, v91, v92], []⟩ w')) :
    Code.wp Tryz.prog (regC 12 Tryz.f22) (Exit.then K (fun _ _ _ => False)) ⟨#[v0, .pointer (some ⟨cb, 0, none⟩), v2, .int .i64 (n : Int), .int .i64 (0), .pointer (some ⟨ob, 0, none⟩), .nilIface, v7, v8, v9, v10, v11, v12, v13, v14, v15, v16, v17, v18, v19, v20, v21, v22, v23, v24, v25, v26, v27, v28, v29, v30, v31, v32, v33, v34, v35, v36, v37, v38, v39, v40, v41, v42, v43, v44, v45, v46, v47, v48, v49, v50, v51, v52, v53, v54, v55, v56, v57, v58, v59, v60, v61, v62, v63, v64, v65, v66, v67, v68, v69, v70, v71, v72, v73, v74, v75, v76, v77, v78, v79, v80, v81, v82, v83, v84, v85, v86, v87, v88, v89, v90, v91, v92], []⟩ w := by
  have hl2 : IntKind.i64.wrap ((n : Int) - 1) = 0 := by rw [hln]; rfl
  have hl3 : wrap64 ((n : Int) - 1) = 0 := by rw [hln]; exact IntWalk.wrap64_in _ ⟨by decide, by decide⟩
  conv => arg 2; whnf
  refine wp_region_held_drew (S := fun w' => (w'.cell? ⟨ob, 0, none⟩ = some (.string kt) ∧ w'.cell? ⟨ob, 1, none⟩ = some (.int .i64 (od1 : Int)) ∧ w'.cell? ⟨ob, 2, none⟩ = some (.int .i64 (oa1 : Int)) ∧ w'.cell? ⟨ob, 3, none⟩ = some (.int .i64 ob1) ∧ w'.cell? ⟨ob, 4, none⟩ = some (.int .u32 oi1) ∧ w'.cell? ⟨ob, 5, none⟩ = some (.int .i64 (ot1 : Int)) ∧ Below w.heap.size w w')) (by kernel_rfl) ?_ (fun hHeld => ?_)
  · exact ⟨e0, e1, e2, e3, e4, e5, (Below.refl _ _).drew⟩
  refine tkW 0 (v := ?_) ?_ (by assumption) ?_
  rotate_left
  · (intro wq hSq; (try dsimp only at hSq); go_simp; try with_reducible rfl)
  (try simp only [getElem_toArray, getElem_cons_succ, getElem_cons_zero, Act.put, setIfInBounds_toArray, set_cons_zero, set_cons_succ])
  refine tkW 1 (v := ?_) ?_ (by assumption) ?_
  rotate_left
  · (intro wq hSq; (try dsimp only at hSq); go_simp; try with_reducible rfl)
  (try simp only [getElem_toArray, getElem_cons_succ, getElem_cons_zero, Act.put, setIfInBounds_toArray, set_cons_zero, set_cons_succ])
  refine tkW 2 (v := ?_) ?_ (by assumption) ?_
  rotate_left
  · (intro wq hSq; (try dsimp only at hSq); go_simp; try with_reducible rfl)
  (try simp only [getElem_toArray, getElem_cons_succ, getElem_cons_zero, Act.put, setIfInBounds_toArray, set_cons_zero, set_cons_succ])
  refine tkW 3 (v := ?_) ?_ (by assumption) ?_
  rotate_left
  · (intro wq hSq; (try dsimp only at hSq); go_simp; try with_reducible rfl)
  (try simp only [getElem_toArray, getElem_cons_succ, getElem_cons_zero, Act.put, setIfInBounds_toArray, set_cons_zero, set_cons_succ])
  refine tkW 4 (v := ?_) ?_ (by assumption) ?_
  rotate_left
  · (intro wq hSq; (try dsimp only at hSq); go_simp; try with_reducible rfl)
  (try simp only [getElem_toArray, getElem_cons_succ, getElem_cons_zero, Act.put, setIfInBounds_toArray, set_cons_zero, set_cons_succ])
  refine tkW 5 (v := ?_) ?_ (by assumption) ?_
  rotate_left
  · (intro wq hSq; (try dsimp only at hSq); go_simp; try with_reducible rfl)
  (try simp only [getElem_toArray, getElem_cons_succ, getElem_cons_zero, Act.put, setIfInBounds_toArray, set_cons_zero, set_cons_succ])
  refine tkU 6 (by assumption) ?_
  (try simp only [getElem_toArray, getElem_cons_succ, getElem_cons_zero, Act.put, setIfInBounds_toArray, set_cons_zero, set_cons_succ])
  refine tkU 7 (by assumption) ?_
  (try simp only [getElem_toArray, getElem_cons_succ, getElem_cons_zero, Act.put, setIfInBounds_toArray, set_cons_zero, set_cons_succ])
  refine tkU 8 (by assumption) ?_
  (try simp only [getElem_toArray, getElem_cons_succ, getElem_cons_zero, Act.put, setIfInBounds_toArray, set_cons_zero, set_cons_succ])
  refine tkU 9 (by assumption) ?_
  (try simp only [getElem_toArray, getElem_cons_succ, getElem_cons_zero, Act.put, setIfInBounds_toArray, set_cons_zero, set_cons_succ])
  refine tkU 10 (by assumption) ?_
  (try simp only [getElem_toArray, getElem_cons_succ, getElem_cons_zero, Act.put, setIfInBounds_toArray, set_cons_zero, set_cons_succ])
  refine tkU 11 (by assumption) ?_
  (try simp only [getElem_toArray, getElem_cons_succ, getElem_cons_zero, Act.put, setIfInBounds_toArray, set_cons_zero, set_cons_succ])
  refine tkU 12 (by assumption) ?_
  (try simp only [getElem_toArray, getElem_cons_succ, getElem_cons_zero, Act.put, setIfInBounds_toArray, set_cons_zero, set_cons_succ])
  refine tkU 13 (by assumption) ?_
  (try simp only [getElem_toArray, getElem_cons_succ, getElem_cons_zero, Act.put, setIfInBounds_toArray, set_cons_zero, set_cons_succ])
  refine tkU 14 (by assumption) ?_
  (try simp only [getElem_toArray, getElem_cons_succ, getElem_cons_zero, Act.put, setIfInBounds_toArray, set_cons_zero, set_cons_succ])
  refine tkU 15 (by assumption) ?_
  (try simp only [getElem_toArray, getElem_cons_succ, getElem_cons_zero, Act.put, setIfInBounds_toArray, set_cons_zero, set_cons_succ])
  refine tkW 16 (v := ?_) ?_ (by assumption) ?_
  rotate_left
  · (intro wq hSq; (try dsimp only at hSq); go_simp; try with_reducible rfl)
  (try simp only [getElem_toArray, getElem_cons_succ, getElem_cons_zero, Act.put, setIfInBounds_toArray, set_cons_zero, set_cons_succ])
  refine tkW 17 (v := ?_) ?_ (by assumption) ?_
  rotate_left
  · (intro wq hSq; (try dsimp only at hSq); go_simp; try with_reducible rfl)
  (try simp only [getElem_toArray, getElem_cons_succ, getElem_cons_zero, Act.put, setIfInBounds_toArray, set_cons_zero, set_cons_succ])
  refine tkW 18 (v := ?_) ?_ (by assumption) ?_
  rotate_left
  · (intro wq hSq; (try dsimp only at hSq); go_simp; try with_reducible rfl)
  (try simp only [getElem_toArray, getElem_cons_succ, getElem_cons_zero, Act.put, setIfInBounds_toArray, set_cons_zero, set_cons_succ])
  refine wpAnyH_ready (rs := [19]) (by kernel_rfl) (by simp) ?_
  refine AllReadyH.cons rfl (fun K9 hK9 => ?_) AllReadyH.nil
  go_simp
  refine (HI.out _).mono ?_
  rintro e w2 ⟨rfl, hb9⟩
  refine hK9.out _ _ ?_ (fun hHeld2 => ?_)
  · (try dsimp only at hHeld)
    go_split_ands
    refine ⟨?_, ?_, ?_, ?_, ?_, ?_, ?_⟩ <;> (first | assumption | (rw [hb9.cell (World.block_lt_of_cell? _ _ (by assumption))]; assumption) | exact Below.trans (by assumption) (hb9.mono (Below.size (by assumption))))
  clear hK9 K9
  (try simp only [getElem_toArray, getElem_cons_succ, getElem_cons_zero, Act.put, setIfInBounds_toArray, set_cons_zero, set_cons_succ])
  refine tkW 20 (v := ?_) ?_ (by assumption) ?_
  rotate_left
  · (intro wq hSq; (try dsimp only at hSq); go_simp; try with_reducible rfl)
  (try simp only [getElem_toArray, getElem_cons_succ, getElem_cons_zero, Act.put, setIfInBounds_toArray, set_cons_zero, set_cons_succ])
  refine tkW 21 (v := ?_) ?_ (by assumption) ?_
  rotate_left
  · (intro wq hSq; (try dsimp only at hSq); go_simp; try with_reducible rfl)
  (try simp only [getElem_toArray, getElem_cons_succ, getElem_cons_zero, Act.put, setIfInBounds_toArray, set_cons_zero, set_cons_succ])
  refine tkW 22 (v := ?_) ?_ (by assumption) ?_
  rotate_left
  · (intro wq hSq; (try dsimp only at hSq); go_simp; try with_reducible rfl)
  (try simp only [getElem_toArray, getElem_cons_succ, getElem_cons_zero, Act.put, setIfInBounds_toArray, set_cons_zero, set_cons_succ])
  refine tkW 23 (v := ?_) ?_ (by assumption) ?_
  rotate_left
  · (intro wq hSq; (try dsimp only at hSq); go_simp; try with_reducible rfl)
  (try simp only [getElem_toArray, getElem_cons_succ, getElem_cons_zero, Act.put, setIfInBounds_toArray, set_cons_zero, set_cons_succ])
  refine tkW 24 (v := ?_) ?_ (by assumption) ?_
  rotate_left
  · (intro wq hSq; (try dsimp only at hSq); go_simp; try with_reducible rfl)
  (try simp only [getElem_toArray, getElem_cons_succ, getElem_cons_zero, Act.put, setIfInBounds_toArray, set_cons_zero, set_cons_succ])
  refine tkW 25 (v := ?_) ?_ (by assumption) ?_
  rotate_left
  · (intro wq hSq; (try dsimp only at hSq); go_simp; try with_reducible rfl)
  (try simp only [getElem_toArray, getElem_cons_succ, getElem_cons_zero, Act.put, setIfInBounds_toArray, set_cons_zero, set_cons_succ])
  refine tkW 26 (v := ?_) ?_ (by assumption) ?_
  rotate_left
  · (intro wq hSq; (try dsimp only at hSq); go_simp; try with_reducible rfl)
  (try simp only [getElem_toArray, getElem_cons_succ, getElem_cons_zero, Act.put, setIfInBounds_toArray, set_cons_zero, set_cons_succ])
  refine tkW 27 (v := ?_) ?_ (by assumption) ?_
  rotate_left
  · (intro wq hSq; (try dsimp only at hSq); go_simp; try with_reducible rfl)
  (try simp only [getElem_toArray, getElem_cons_succ, getElem_cons_zero, Act.put, setIfInBounds_toArray, set_cons_zero, set_cons_succ])
  refine wpAnyH_done (by kernel_rfl) ?_ _
  exact hQ.out _ _ _ _ _ _ _ _ _ _ _ _ _ _ _ _ _ _ _ _ _ _ _ _ _ _ _ _ hHeld2.2.2.2.2.2.2
set_option maxHeartbeats 4000000 in
set_option maxRecDepth 100000 in
theorem ck_next_mid {w : World} {K : Act → World → Prop} {cb ob n g cap m j otm : Nat} {kt : ByteArray} {od1 oa1 ot1 : Nat} {ob1 oi1 : Int} (v0 v2 v7 v8 v9 v10 v11 v12 v13 v14 v15 v16 v17 v18 v19 v20 v21 v22 v23 v24 v25 v26 v27 v28 v29 v30 v31 v32 v33 v34 v35 v36 v37 v38 v39 v40 v41 v42 v43 v44 v45 v46 v47 v48 v49 v50 v51 v52 v53 v54 v55 v56 v57 v58 v59 v60 v61 v62 v63 v64 v65 v66 v67 v68 v69 v70 v71 v72 v73 v74 v75 v76 v77 v78 v79 v80 v81 v82 v83 v84 v85 v86 v87 v88 v89 v90 v91 v92 : Value)
    (e0 : w.cell? ⟨ob, 0, none⟩ = some (.string kt)) (e1 : w.cell? ⟨ob, 1, none⟩ = some (.int .i64 (od1 : Int))) (e2 : w.cell? ⟨ob, 2, none⟩ = some (.int .i64 (oa1 : Int))) (e3 : w.cell? ⟨ob, 3, none⟩ = some (.int .i64 ob1)) (e4 : w.cell? ⟨ob, 4, none⟩ = some (.int .u32 oi1)) (e5 : w.cell? ⟨ob, 5, none⟩ = some (.int .i64 (ot1 : Int)))
    (e6 : w.cell? ⟨cb, 2, none⟩ = some (.slice (some ⟨g, 0, none⟩) n cap)) (e7 : w.cell? ⟨g, m * 6 + 5, none⟩ = some (.int .i64 (otm : Int))) (hjm : j = m + 1) (hmn : m < n) (hn : n ≤ 100) (hat : otm ≤ ot1) (HI : Hid (∀ wx, Calls Tryz.prog 44 #[opA kt od1 oa1 ob1 oi1 ot1] wx fun e w' => e = .returned (.bool false) ∧ Below wx.heap.size wx w'))
    (hQ : Hid (∀ (u56 u57 u58 u59 u60 u61 u62 u63 u64 u65 u66 u67 u68 u69 u70 u71 u72 u73 u74 u75 u76 u77 u78 u79 u80 u81 u82 : Value) w', Below w.heap.size w w' → K ⟨#[v0, .pointer (some ⟨cb, 0, none⟩), v2, .int .i64 (n : Int), .int .i64 ((j : Int)), .pointer (some ⟨ob, 0, none⟩), .nilIface, v7, v8, v9, v10, v11, v12, v13, v14, v15, v16, v17, v18, v19, v20, v21, v22, v23, v24, v25, v26, v27, v28, v29, v30, v31, v32, v33, v34, v35, v36, v37, v38, v39, v40, v41, v42, v43, v44, v45, v46, v47, v48, v49, v50, v51, v52, v53, v54, v55, u56, u57, u58, u59, u60, u61, u62, u63, u64, u65, u66, u67, u68, u69, u70, u71, u72, u73, u74, u75, u76, u77, u78, u79, u80, u81, u82, .bool false, v84, v85, v86, v87, v88, v89, v90, v91, v92], []⟩ w')) :
    Code.wp Tryz.prog (regC 12 Tryz.f22) (Exit.then K (fun _ _ _ => False)) ⟨#[v0, .pointer (some ⟨cb, 0, none⟩), v2, .int .i64 (n : Int), .int .i64 ((j : Int)), .pointer (some ⟨ob, 0, none⟩), .nilIface, v7, v8, v9, v10, v11, v12, v13, v14, v15, v16, v17, v18, v19, v20, v21, v22, v23, v24, v25, v26, v27, v28, v29, v30, v31, v32, v33, v34, v35, v36, v37, v38, v39, v40, v41, v42, v43, v44, v45, v46, v47, v48, v49, v50, v51, v52, v53, v54, v55, v56, v57, v58, v59, v60, v61, v62, v63, v64, v65, v66, v67, v68, v69, v70, v71, v72, v73, v74, v75, v76, v77, v78, v79, v80, v81, v82, v83, v84, v85, v86, v87, v88, v89, v90, v91, v92], []⟩ w := by
  have hj1 : (0 : Int) < (j : Int) := by omega
  have hj2 : 0 < j := by omega
  have hjw : (j : Int) - 1 = (m : Int) := by omega
  have hjw2 : IntKind.i64.wrap ((j : Int) - 1) = (m : Int) := by rw [hjw]; exact IntWalk.i64_in _ ⟨by omega, by omega⟩
  have hjw3 : wrap64 ((j : Int) - 1) = (m : Int) := by rw [hjw]; exact IntWalk.wrap64_in _ ⟨by omega, by omega⟩
  have hw1 : IntKind.i64.wrap (m : Int) = (m : Int) := IntWalk.i64_in _ ⟨by omega, by omega⟩
  have hw2 : IntKind.i64.wrap (j : Int) = (j : Int) := IntWalk.i64_in _ ⟨by omega, by omega⟩
  have hm1 : (m : Int) < (n : Int) := by omega
  have ha1 : ¬ (ot1 : Int) < (otm : Int) := by omega
  have ha2 : decide ((ot1 : Int) < (otm : Int)) = false := decide_eq_false ha1
  have ha3 : decide (ot1 < otm) = false := decide_eq_false (by omega)
  clear hjm hmn hn hat
  conv => arg 2; whnf
  refine wp_region_held_drew (S := fun w' => (w'.cell? ⟨ob, 0, none⟩ = some (.string kt) ∧ w'.cell? ⟨ob, 1, none⟩ = some (.int .i64 (od1 : Int)) ∧ w'.cell? ⟨ob, 2, none⟩ = some (.int .i64 (oa1 : Int)) ∧ w'.cell? ⟨ob, 3, none⟩ = some (.int .i64 ob1) ∧ w'.cell? ⟨ob, 4, none⟩ = some (.int .u32 oi1) ∧ w'.cell? ⟨ob, 5, none⟩ = some (.int .i64 (ot1 : Int)) ∧ w'.cell? ⟨cb, 2, none⟩ = some (.slice (some ⟨g, 0, none⟩) n cap) ∧ w'.cell? ⟨g, m * 6 + 5, none⟩ = some (.int .i64 (otm : Int)) ∧ Below w.heap.size w w')) (by kernel_rfl) ?_ (fun hHeld => ?_)
  · exact ⟨e0, e1, e2, e3, e4, e5, e6, e7, (Below.refl _ _).drew⟩
  refine tkW 0 (v := ?_) ?_ (by assumption) ?_
  rotate_left
  · (intro wq hSq; (try dsimp only at hSq); go_simp; try with_reducible rfl)
  (try simp only [getElem_toArray, getElem_cons_succ, getElem_cons_zero, Act.put, setIfInBounds_toArray, set_cons_zero, set_cons_succ])
  refine tkW 1 (v := ?_) ?_ (by assumption) ?_
  rotate_left
  · (intro wq hSq; (try dsimp only at hSq); go_simp; try with_reducible rfl)
  (try simp only [getElem_toArray, getElem_cons_succ, getElem_cons_zero, Act.put, setIfInBounds_toArray, set_cons_zero, set_cons_succ])
  refine tkW 2 (v := ?_) ?_ (by assumption) ?_
  rotate_left
  · (intro wq hSq; (try dsimp only at hSq); go_simp; try with_reducible rfl)
  (try simp only [getElem_toArray, getElem_cons_succ, getElem_cons_zero, Act.put, setIfInBounds_toArray, set_cons_zero, set_cons_succ])
  refine tkW 3 (v := ?_) ?_ (by assumption) ?_
  rotate_left
  · (intro wq hSq; (try dsimp only at hSq); go_simp; try with_reducible rfl)
  (try simp only [getElem_toArray, getElem_cons_succ, getElem_cons_zero, Act.put, setIfInBounds_toArray, set_cons_zero, set_cons_succ])
  refine tkW 4 (v := ?_) ?_ (by assumption) ?_
  rotate_left
  · (intro wq hSq; (try dsimp only at hSq); go_simp; try with_reducible rfl)
  (try simp only [getElem_toArray, getElem_cons_succ, getElem_cons_zero, Act.put, setIfInBounds_toArray, set_cons_zero, set_cons_succ])
  refine tkW 5 (v := ?_) ?_ (by assumption) ?_
  rotate_left
  · (intro wq hSq; (try dsimp only at hSq); go_simp; try with_reducible rfl)
  (try simp only [getElem_toArray, getElem_cons_succ, getElem_cons_zero, Act.put, setIfInBounds_toArray, set_cons_zero, set_cons_succ])
  refine tkW 6 (v := ?_) ?_ (by assumption) ?_
  rotate_left
  · (intro wq hSq; (try dsimp only at hSq); go_simp; try with_reducible rfl)
  (try simp only [getElem_toArray, getElem_cons_succ, getElem_cons_zero, Act.put, setIfInBounds_toArray, set_cons_zero, set_cons_succ])
  refine tkW 7 (v := ?_) ?_ (by assumption) ?_
  rotate_left
  · (intro wq hSq; (try dsimp only at hSq); go_simp; try with_reducible rfl)
  (try simp only [getElem_toArray, getElem_cons_succ, getElem_cons_zero, Act.put, setIfInBounds_toArray, set_cons_zero, set_cons_succ])
  refine tkW 8 (v := ?_) ?_ (by assumption) ?_
  rotate_left
  · (intro wq hSq; (try dsimp only at hSq); go_simp; try with_reducible rfl)
  (try simp only [getElem_toArray, getElem_cons_succ, getElem_cons_zero, Act.put, setIfInBounds_toArray, set_cons_zero, set_cons_succ])
  refine tkW 9 (v := ?_) ?_ (by assumption) ?_
  rotate_left
  · (intro wq hSq; (try dsimp only at hSq); go_simp; try with_reducible rfl)
  (try simp only [getElem_toArray, getElem_cons_succ, getElem_cons_zero, Act.put, setIfInBounds_toArray, set_cons_zero, set_cons_succ])
  refine tkW 10 (v := ?_) ?_ (by assumption) ?_
  rotate_left
  · (intro wq hSq; (try dsimp only at hSq); go_simp; try with_reducible rfl)
  (try simp only [getElem_toArray, getElem_cons_succ, getElem_cons_zero, Act.put, setIfInBounds_toArray, set_cons_zero, set_cons_succ])
  refine tkW 11 (v := ?_) ?_ (by assumption) ?_
  rotate_left
  · (intro wq hSq; (try dsimp only at hSq); go_simp; try with_reducible rfl)
  (try simp only [getElem_toArray, getElem_cons_succ, getElem_cons_zero, Act.put, setIfInBounds_toArray, set_cons_zero, set_cons_succ])
  refine tkW 12 (v := ?_) ?_ (by assumption) ?_
  rotate_left
  · (intro wq hSq; (try dsimp only at hSq); go_simp; try with_reducible rfl)
  (try simp only [getElem_toArray, getElem_cons_succ, getElem_cons_zero, Act.put, setIfInBounds_toArray, set_cons_zero, set_cons_succ])
  refine tkW 13 (v := ?_) ?_ (by assumption) ?_
  rotate_left
  · (intro wq hSq; (try dsimp only at hSq); go_simp; try with_reducible rfl)
  (try simp only [getElem_toArray, getElem_cons_succ, getElem_cons_zero, Act.put, setIfInBounds_toArray, set_cons_zero, set_cons_succ])
  refine tkW 14 (v := ?_) ?_ (by assumption) ?_
  rotate_left
  · (intro wq hSq; (try dsimp only at hSq); go_simp; try with_reducible rfl)
  (try simp only [getElem_toArray, getElem_cons_succ, getElem_cons_zero, Act.put, setIfInBounds_toArray, set_cons_zero, set_cons_succ])
  refine tkW 15 (v := ?_) ?_ (by assumption) ?_
  rotate_left
  · (intro wq hSq; (try dsimp only at hSq); go_simp; try with_reducible rfl)
  (try simp only [getElem_toArray, getElem_cons_succ, getElem_cons_zero, Act.put, setIfInBounds_toArray, set_cons_zero, set_cons_succ])
  refine tkW 16 (v := ?_) ?_ (by assumption) ?_
  rotate_left
  · (intro wq hSq; (try dsimp only at hSq); go_simp; try with_reducible rfl)
  (try simp only [getElem_toArray, getElem_cons_succ, getElem_cons_zero, Act.put, setIfInBounds_toArray, set_cons_zero, set_cons_succ])
  refine tkW 17 (v := ?_) ?_ (by assumption) ?_
  rotate_left
  · (intro wq hSq; (try dsimp only at hSq); go_simp; try with_reducible rfl)
  (try simp only [getElem_toArray, getElem_cons_succ, getElem_cons_zero, Act.put, setIfInBounds_toArray, set_cons_zero, set_cons_succ])
  refine tkW 18 (v := ?_) ?_ (by assumption) ?_
  rotate_left
  · (intro wq hSq; (try dsimp only at hSq); go_simp; try with_reducible rfl)
  (try simp only [getElem_toArray, getElem_cons_succ, getElem_cons_zero, Act.put, setIfInBounds_toArray, set_cons_zero, set_cons_succ])
  refine wpAnyH_ready (rs := [19]) (by kernel_rfl) (by simp) ?_
  refine AllReadyH.cons rfl (fun K9 hK9 => ?_) AllReadyH.nil
  go_simp
  refine (HI.out _).mono ?_
  rintro e w2 ⟨rfl, hb9⟩
  refine hK9.out _ _ ?_ (fun hHeld2 => ?_)
  · (try dsimp only at hHeld)
    go_split_ands
    refine ⟨?_, ?_, ?_, ?_, ?_, ?_, ?_, ?_, ?_⟩ <;> (first | assumption | (rw [hb9.cell (World.block_lt_of_cell? _ _ (by assumption))]; assumption) | exact Below.trans (by assumption) (hb9.mono (Below.size (by assumption))))
  clear hK9 K9
  (try simp only [getElem_toArray, getElem_cons_succ, getElem_cons_zero, Act.put, setIfInBounds_toArray, set_cons_zero, set_cons_succ])
  refine tkW 20 (v := ?_) ?_ (by assumption) ?_
  rotate_left
  · (intro wq hSq; (try dsimp only at hSq); go_simp; try with_reducible rfl)
  (try simp only [getElem_toArray, getElem_cons_succ, getElem_cons_zero, Act.put, setIfInBounds_toArray, set_cons_zero, set_cons_succ])
  refine tkU 21 (by assumption) ?_
  (try simp only [getElem_toArray, getElem_cons_succ, getElem_cons_zero, Act.put, setIfInBounds_toArray, set_cons_zero, set_cons_succ])
  refine tkU 22 (by assumption) ?_
  (try simp only [getElem_toArray, getElem_cons_succ, getElem_cons_zero, Act.put, setIfInBounds_toArray, set_cons_zero, set_cons_succ])
  refine tkU 23 (by assumption) ?_
  (try simp only [getElem_toArray, getElem_cons_succ, getElem_cons_zero, Act.put, setIfInBounds_toArray, set_cons_zero, set_cons_succ])
  refine tkU 24 (by assumption) ?_
  (try simp only [getElem_toArray, getElem_cons_succ, getElem_cons_zero, Act.put, setIfInBounds_toArray, set_cons_zero, set_cons_succ])
  refine tkW 25 (v := ?_) ?_ (by assumption) ?_
  rotate_left
  · (intro wq hSq; (try dsimp only at hSq); go_simp; try with_reducible rfl)
  (try simp only [getElem_toArray, getElem_cons_succ, getElem_cons_zero, Act.put, setIfInBounds_toArray, set_cons_zero, set_cons_succ])
  refine tkW 26 (v := ?_) ?_ (by assumption) ?_
  rotate_left
  · (intro wq hSq; (try dsimp only at hSq); go_simp; try with_reducible rfl)
  (try simp only [getElem_toArray, getElem_cons_succ, getElem_cons_zero, Act.put, setIfInBounds_toArray, set_cons_zero, set_cons_succ])
  refine tkW 27 (v := ?_) ?_ (by assumption) ?_
  rotate_left
  · (intro wq hSq; (try dsimp only at hSq); go_simp; try with_reducible rfl)
  (try simp only [getElem_toArray, getElem_cons_succ, getElem_cons_zero, Act.put, setIfInBounds_toArray, set_cons_zero, set_cons_succ])
  refine wpAnyH_done (by kernel_rfl) ?_ _
  exact hQ.out _ _ _ _ _ _ _ _ _ _ _ _ _ _ _ _ _ _ _ _ _ _ _ _ _ _ _ _ hHeld2.2.2.2.2.2.2.2.2
set_option maxHeartbeats 4000000 in
set_option maxRecDepth 100000 in
theorem ck_next_last {w : World} {K : Act → World → Prop} {cb ob n g cap m j otm : Nat} {kt : ByteArray} {od1 oa1 ot1 : Nat} {ob1 oi1 : Int} (v0 v2 v7 v8 v9 v10 v11 v12 v13 v14 v15 v16 v17 v18 v19 v20 v21 v22 v23 v24 v25 v26 v27 v28 v29 v30 v31 v32 v33 v34 v35 v36 v37 v38 v39 v40 v41 v42 v43 v44 v45 v46 v47 v48 v49 v50 v51 v52 v53 v54 v55 v56 v57 v58 v59 v60 v61 v62 v63 v64 v65 v66 v67 v68 v69 v70 v71 v72 v73 v74 v75 v76 v77 v78 v79 v80 v81 v82 v83 v84 v85 v86 v87 v88 v89 v90 v91 v92 : Value)
    (e0 : w.cell? ⟨ob, 0, none⟩ = some (.string kt)) (e1 : w.cell? ⟨ob, 1, none⟩ = some (.int .i64 (od1 : Int))) (e2 : w.cell? ⟨ob, 2, none⟩ = some (.int .i64 (oa1 : Int))) (e3 : w.cell? ⟨ob, 3, none⟩ = some (.int .i64 ob1)) (e4 : w.cell? ⟨ob, 4, none⟩ = some (.int .u32 oi1)) (e5 : w.cell? ⟨ob, 5, none⟩ = some (.int .i64 (ot1 : Int)))
    (e6 : w.cell? ⟨cb, 2, none⟩ = some (.slice (some ⟨g, 0, none⟩) n cap)) (e7 : w.cell? ⟨g, m * 6 + 5, none⟩ = some (.int .i64 (otm : Int))) (hjm : j = m + 1) (hmn : m < n) (hn : n ≤ 100) (hat : otm ≤ ot1) (hln : (n : Int) - 1 = (m : Int) + 1) (HI : Hid (∀ wx, Calls Tryz.prog 44 #[opA kt od1 oa1 ob1 oi1 ot1] wx fun e w' => e = .returned (.bool true) ∧ Below wx.heap.size wx w'))
    (hQ : Hid (∀ (u56 u57 u58 u59 u60 u61 u62 u63 u64 u65 u66 u67 u68 u69 u70 u71 u72 u73 u74 u75 u76 u77 u78 u79 u80 u81 u82 : Value) w', Below w.heap.size w w' → K ⟨#[v0, .pointer (some ⟨cb, 0, none⟩), v2, .int .i64 (n : Int), .int .i64 ((j : Int)), .pointer (some ⟨ob, 0, none⟩), .nilIface, v7, v8, v9, v10, v11, v12, v13, v14, v15, v16, v17, v18, v19, v20, v21, v22, v23, v24, v25, v26, v27, v28, v29, v30, v31, v32, v33, v34, v35, v36, v37, v38, v39, v40, v41, v42, v43, v44, v45, v46, v47, v48, v49, v50, v51, v52, v53, v54, v55, u56, u57, u58, u59, u60, u61, u62, u63, u64, u65, u66, u67, u68, u69, u70, u71, u72, u73, u74, u75, u76, u77, u78, u79, u80, u81, u82, .bool false, v84, v85, v86, v87, v88, v89, v90, v91, v92], []⟩ w')) :
    Code.wp Tryz.prog (regC 12 Tryz.f22) (Exit.then K (fun _ _ _ => False)) ⟨#[v0, .pointer (some ⟨cb, 0, none⟩), v2, .int .i64 (n : Int), .int .i64 ((j : Int)), .pointer (some ⟨ob, 0, none⟩), .nilIface, v7, v8, v9, v10, v11, v12, v13, v14, v15, v16, v17, v18, v19, v20, v21, v22, v23, v24, v25, v26, v27, v28, v29, v30, v31, v32, v33, v34, v35, v36, v37, v38, v39, v40, v41, v42, v43, v44, v45, v46, v47, v48, v49, v50, v51, v52, v53, v54, v55, v56, v57, v58, v59, v60, v61, v62, v63, v64, v65, v66, v67, v68, v69, v70, v71, v72, v73, v74, v75, v76, v77, v78, v79, v80, v81, v82, v83, v84, v85, v86, v87, v88, v89, v90, v91, v92], []⟩ w := by
  have hj1 : (0 : Int) < (j : Int) := by omega
  have hj2 : 0 < j := by omega
  have hjw : (j : Int) - 1 = (m : Int) := by omega
  have hjw2 : IntKind.i64.wrap ((j : Int) - 1) = (m : Int) := by rw [hjw]; exact IntWalk.i64_in _ ⟨by omega, by omega⟩
  have hjw3 : wrap64 ((j : Int) - 1) = (m : Int) := by rw [hjw]; exact IntWalk.wrap64_in _ ⟨by omega, by omega⟩
  have hw1 : IntKind.i64.wrap (m : Int) = (m : Int) := IntWalk.i64_in _ ⟨by omega, by omega⟩
  have hw2 : IntKind.i64.wrap (j : Int) = (j : Int) := IntWalk.i64_in _ ⟨by omega, by omega⟩
  have hm1 : (m : Int) < (n : Int) := by omega
  have ha1 : ¬ (ot1 : Int) < (otm : Int) := by omega
  have ha2 : decide ((ot1 : Int) < (otm : Int)) = false := decide_eq_false ha1
  have ha3 : decide (ot1 < otm) = false := decide_eq_false (by omega)
  have hl1 : (n : Int) - 1 = (j : Int) := by omega
  have hl2 : IntKind.i64.wrap ((n : Int) - 1) = (j : Int) := by rw [hl1]; exact IntWalk.i64_in _ ⟨by omega, by omega⟩
  have hl3 : wrap64 ((n : Int) - 1) = (j : Int) := by rw [hl1]; exact IntWalk.wrap64_in _ ⟨by omega, by omega⟩
  clear hln
  clear hjm hmn hn hat
  conv => arg 2; whnf
  refine wp_region_held_drew (S := fun w' => (w'.cell? ⟨ob, 0, none⟩ = some (.string kt) ∧ w'.cell? ⟨ob, 1, none⟩ = some (.int .i64 (od1 : Int)) ∧ w'.cell? ⟨ob, 2, none⟩ = some (.int .i64 (oa1 : Int)) ∧ w'.cell? ⟨ob, 3, none⟩ = some (.int .i64 ob1) ∧ w'.cell? ⟨ob, 4, none⟩ = some (.int .u32 oi1) ∧ w'.cell? ⟨ob, 5, none⟩ = some (.int .i64 (ot1 : Int)) ∧ w'.cell? ⟨cb, 2, none⟩ = some (.slice (some ⟨g, 0, none⟩) n cap) ∧ w'.cell? ⟨g, m * 6 + 5, none⟩ = some (.int .i64 (otm : Int)) ∧ Below w.heap.size w w')) (by kernel_rfl) ?_ (fun hHeld => ?_)
  · exact ⟨e0, e1, e2, e3, e4, e5, e6, e7, (Below.refl _ _).drew⟩
  refine tkW 0 (v := ?_) ?_ (by assumption) ?_
  rotate_left
  · (intro wq hSq; (try dsimp only at hSq); go_simp; try with_reducible rfl)
  (try simp only [getElem_toArray, getElem_cons_succ, getElem_cons_zero, Act.put, setIfInBounds_toArray, set_cons_zero, set_cons_succ])
  refine tkW 1 (v := ?_) ?_ (by assumption) ?_
  rotate_left
  · (intro wq hSq; (try dsimp only at hSq); go_simp; try with_reducible rfl)
  (try simp only [getElem_toArray, getElem_cons_succ, getElem_cons_zero, Act.put, setIfInBounds_toArray, set_cons_zero, set_cons_succ])
  refine tkW 2 (v := ?_) ?_ (by assumption) ?_
  rotate_left
  · (intro wq hSq; (try dsimp only at hSq); go_simp; try with_reducible rfl)
  (try simp only [getElem_toArray, getElem_cons_succ, getElem_cons_zero, Act.put, setIfInBounds_toArray, set_cons_zero, set_cons_succ])
  refine tkW 3 (v := ?_) ?_ (by assumption) ?_
  rotate_left
  · (intro wq hSq; (try dsimp only at hSq); go_simp; try with_reducible rfl)
  (try simp only [getElem_toArray, getElem_cons_succ, getElem_cons_zero, Act.put, setIfInBounds_toArray, set_cons_zero, set_cons_succ])
  refine tkW 4 (v := ?_) ?_ (by assumption) ?_
  rotate_left
  · (intro wq hSq; (try dsimp only at hSq); go_simp; try with_reducible rfl)
  (try simp only [getElem_toArray, getElem_cons_succ, getElem_cons_zero, Act.put, setIfInBounds_toArray, set_cons_zero, set_cons_succ])
  refine tkW 5 (v := ?_) ?_ (by assumption) ?_
  rotate_left
  · (intro wq hSq; (try dsimp only at hSq); go_simp; try with_reducible rfl)
  (try simp only [getElem_toArray, getElem_cons_succ, getElem_cons_zero, Act.put, setIfInBounds_toArray, set_cons_zero, set_cons_succ])
  refine tkW 6 (v := ?_) ?_ (by assumption) ?_
  rotate_left
  · (intro wq hSq; (try dsimp only at hSq); go_simp; try with_reducible rfl)
  (try simp only [getElem_toArray, getElem_cons_succ, getElem_cons_zero, Act.put, setIfInBounds_toArray, set_cons_zero, set_cons_succ])
  refine tkW 7 (v := ?_) ?_ (by assumption) ?_
  rotate_left
  · (intro wq hSq; (try dsimp only at hSq); go_simp; try with_reducible rfl)
  (try simp only [getElem_toArray, getElem_cons_succ, getElem_cons_zero, Act.put, setIfInBounds_toArray, set_cons_zero, set_cons_succ])
  refine tkW 8 (v := ?_) ?_ (by assumption) ?_
  rotate_left
  · (intro wq hSq; (try dsimp only at hSq); go_simp; try with_reducible rfl)
  (try simp only [getElem_toArray, getElem_cons_succ, getElem_cons_zero, Act.put, setIfInBounds_toArray, set_cons_zero, set_cons_succ])
  refine tkW 9 (v := ?_) ?_ (by assumption) ?_
  rotate_left
  · (intro wq hSq; (try dsimp only at hSq); go_simp; try with_reducible rfl)
  (try simp only [getElem_toArray, getElem_cons_succ, getElem_cons_zero, Act.put, setIfInBounds_toArray, set_cons_zero, set_cons_succ])
  refine tkW 10 (v := ?_) ?_ (by assumption) ?_
  rotate_left
  · (intro wq hSq; (try dsimp only at hSq); go_simp; try with_reducible rfl)
  (try simp only [getElem_toArray, getElem_cons_succ, getElem_cons_zero, Act.put, setIfInBounds_toArray, set_cons_zero, set_cons_succ])
  refine tkW 11 (v := ?_) ?_ (by assumption) ?_
  rotate_left
  · (intro wq hSq; (try dsimp only at hSq); go_simp; try with_reducible rfl)
  (try simp only [getElem_toArray, getElem_cons_succ, getElem_cons_zero, Act.put, setIfInBounds_toArray, set_cons_zero, set_cons_succ])
  refine tkW 12 (v := ?_) ?_ (by assumption) ?_
  rotate_left
  · (intro wq hSq; (try dsimp only at hSq); go_simp; try with_reducible rfl)
  (try simp only [getElem_toArray, getElem_cons_succ, getElem_cons_zero, Act.put, setIfInBounds_toArray, set_cons_zero, set_cons_succ])
  refine tkW 13 (v := ?_) ?_ (by assumption) ?_
  rotate_left
  · (intro wq hSq; (try dsimp only at hSq); go_simp; try with_reducible rfl)
  (try simp only [getElem_toArray, getElem_cons_succ, getElem_cons_zero, Act.put, setIfInBounds_toArray, set_cons_zero, set_cons_succ])
  refine tkW 14 (v := ?_) ?_ (by assumption) ?_
  rotate_left
  · (intro wq hSq; (try dsimp only at hSq); go_simp; try with_reducible rfl)
  (try simp only [getElem_toArray, getElem_cons_succ, getElem_cons_zero, Act.put, setIfInBounds_toArray, set_cons_zero, set_cons_succ])
  refine tkW 15 (v := ?_) ?_ (by assumption) ?_
  rotate_left
  · (intro wq hSq; (try dsimp only at hSq); go_simp; try with_reducible rfl)
  (try simp only [getElem_toArray, getElem_cons_succ, getElem_cons_zero, Act.put, setIfInBounds_toArray, set_cons_zero, set_cons_succ])
  refine tkW 16 (v := ?_) ?_ (by assumption) ?_
  rotate_left
  · (intro wq hSq; (try dsimp only at hSq); go_simp; try with_reducible rfl)
  (try simp only [getElem_toArray, getElem_cons_succ, getElem_cons_zero, Act.put, setIfInBounds_toArray, set_cons_zero, set_cons_succ])
  refine tkW 17 (v := ?_) ?_ (by assumption) ?_
  rotate_left
  · (intro wq hSq; (try dsimp only at hSq); go_simp; try with_reducible rfl)
  (try simp only [getElem_toArray, getElem_cons_succ, getElem_cons_zero, Act.put, setIfInBounds_toArray, set_cons_zero, set_cons_succ])
  refine tkW 18 (v := ?_) ?_ (by assumption) ?_
  rotate_left
  · (intro wq hSq; (try dsimp only at hSq); go_simp; try with_reducible rfl)
  (try simp only [getElem_toArray, getElem_cons_succ, getElem_cons_zero, Act.put, setIfInBounds_toArray, set_cons_zero, set_cons_succ])
  refine wpAnyH_ready (rs := [19]) (by kernel_rfl) (by simp) ?_
  refine AllReadyH.cons rfl (fun K9 hK9 => ?_) AllReadyH.nil
  go_simp
  refine (HI.out _).mono ?_
  rintro e w2 ⟨rfl, hb9⟩
  refine hK9.out _ _ ?_ (fun hHeld2 => ?_)
  · (try dsimp only at hHeld)
    go_split_ands
    refine ⟨?_, ?_, ?_, ?_, ?_, ?_, ?_, ?_, ?_⟩ <;> (first | assumption | (rw [hb9.cell (World.block_lt_of_cell? _ _ (by assumption))]; assumption) | exact Below.trans (by assumption) (hb9.mono (Below.size (by assumption))))
  clear hK9 K9
  (try simp only [getElem_toArray, getElem_cons_succ, getElem_cons_zero, Act.put, setIfInBounds_toArray, set_cons_zero, set_cons_succ])
  refine tkW 20 (v := ?_) ?_ (by assumption) ?_
  rotate_left
  · (intro wq hSq; (try dsimp only at hSq); go_simp; try with_reducible rfl)
  (try simp only [getElem_toArray, getElem_cons_succ, getElem_cons_zero, Act.put, setIfInBounds_toArray, set_cons_zero, set_cons_succ])
  refine tkW 21 (v := ?_) ?_ (by assumption) ?_
  rotate_left
  · (intro wq hSq; (try dsimp only at hSq); go_simp; try with_reducible rfl)
  (try simp only [getElem_toArray, getElem_cons_succ, getElem_cons_zero, Act.put, setIfInBounds_toArray, set_cons_zero, set_cons_succ])
  refine tkW 22 (v := ?_) ?_ (by assumption) ?_
  rotate_left
  · (intro wq hSq; (try dsimp only at hSq); go_simp; try with_reducible rfl)
  (try simp only [getElem_toArray, getElem_cons_succ, getElem_cons_zero, Act.put, setIfInBounds_toArray, set_cons_zero, set_cons_succ])
  refine tkW 23 (v := ?_) ?_ (by assumption) ?_
  rotate_left
  · (intro wq hSq; (try dsimp only at hSq); go_simp; try with_reducible rfl)
  (try simp only [getElem_toArray, getElem_cons_succ, getElem_cons_zero, Act.put, setIfInBounds_toArray, set_cons_zero, set_cons_succ])
  refine tkW 24 (v := ?_) ?_ (by assumption) ?_
  rotate_left
  · (intro wq hSq; (try dsimp only at hSq); go_simp; try with_reducible rfl)
  (try simp only [getElem_toArray, getElem_cons_succ, getElem_cons_zero, Act.put, setIfInBounds_toArray, set_cons_zero, set_cons_succ])
  refine tkW 25 (v := ?_) ?_ (by assumption) ?_
  rotate_left
  · (intro wq hSq; (try dsimp only at hSq); go_simp; try with_reducible rfl)
  (try simp only [getElem_toArray, getElem_cons_succ, getElem_cons_zero, Act.put, setIfInBounds_toArray, set_cons_zero, set_cons_succ])
  refine tkW 26 (v := ?_) ?_ (by assumption) ?_
  rotate_left
  · (intro wq hSq; (try dsimp only at hSq); go_simp; try with_reducible rfl)
  (try simp only [getElem_toArray, getElem_cons_succ, getElem_cons_zero, Act.put, setIfInBounds_toArray, set_cons_zero, set_cons_succ])
  refine tkW 27 (v := ?_) ?_ (by assumption) ?_
  rotate_left
  · (intro wq hSq; (try dsimp only at hSq); go_simp; try with_reducible rfl)
  (try simp only [getElem_toArray, getElem_cons_succ, getElem_cons_zero, Act.put, setIfInBounds_toArray, set_cons_zero, set_cons_succ])
  refine wpAnyH_done (by kernel_rfl) ?_ _
  exact hQ.out _ _ _ _ _ _ _ _ _ _ _ _ _ _ _ _ _ _ _ _ _ _ _ _ _ _ _ _ hHeld2.2.2.2.2.2.2.2.2
end Go.Proofs.YtlnefmgiiogcmaaGreatDoor
namespace Go.Proofs.YtlnefmgiiogcmaaGreatDoor
open Go.RowKit
abbrev CodeBox (w : World) (b : Nat) (pc : Int) (many : Nat) (v : Value) : Prop := w.heap[b]? = some (Obj.cells #[.int .u32 pc, .int .i64 (many : Int), v] 34 (0, 0))
theorem CodeBox.cells {w : World} {b : Nat} {pc : Int} {many : Nat} {v : Value} (h : CodeBox w b pc many v) : w.cell? ⟨b, 0, none⟩ = some (.int .u32 pc) ∧ w.cell? ⟨b, 1, none⟩ = some (.int .i64 (many : Int)) ∧ w.cell? ⟨b, 2, none⟩ = some v := by
  refine ⟨?_, ?_, ?_⟩ <;> simp [World.cell?, h]
set_option maxHeartbeats 4000000 in
set_option maxRecDepth 100000 in
theorem irCheck_ok {w : World} {g cap many : Nat} {ops : List OpN} {pc mx : Int} (h : OpsAt w g ops) (hc : CodeOK many ops) (hm : w.cell? ⟨8, 0, none⟩ = some (.int .i64 mx)) :
    Calls Tryz.prog 22 #[.agg #[.int .u32 pc, .int .i64 (many : Int), .slice (some ⟨g, 0, none⟩) ops.length cap]] w fun e w' => e = .returned .nilIface ∧ Below w.heap.size w w' := by
  have HC := Lib.hid hc
  have m0 : (1 : Int) ≤ (many : Int) := by have := hc.m0; omega
  have m1 : (many : Int) ≤ 24 := by have := hc.m1; omega
  have l0 : (0 : Int) < (ops.length : Int) := by have := hc.ne; omega
  have l1 : (ops.length : Int) ≤ 100 := by have := hc.len; omega
  have l2 : ((ops.length : Int) == 0) = false := by simp only [beq_eq_false_iff_ne, ne_eq]; omega
  have s1 : (storesO ops : Int) ≤ 8 := by have := hc.st; omega
  have s0 : (0 : Int) ≤ (storesO ops : Int) := by omega
  have hAl := (Below.refl w.heap.size w).alloc (Nat.le_refl _) (.cells #[.int .u32 pc, .int .i64 (many : Int), .slice (some ⟨g, 0, none⟩) ops.length cap] 34)
  have HS := Lib.hid (irStores_any (cap := cap) (h.below hAl h.lt) hc.len)
  have HAL := Lib.hid hAl
  have HBX : Hid (CodeBox (w.alloc (.cells #[.int .u32 pc, .int .i64 (many : Int), .slice (some ⟨g, 0, none⟩) ops.length cap] 34)) w.heap.size pc many (.slice (some ⟨g, 0, none⟩) ops.length cap)) := Lib.hid (heap_alloc_new w _)
  have HMX := Lib.hid ((hAl.cell (p := ⟨8, 0, none⟩) (World.block_lt_of_cell? _ _ hm)).trans hm)
  have HML := Lib.hid (World.block_lt_of_cell? _ _ hm)
  have HO := Lib.hid (h.below hAl h.lt)
  have HSZ : Hid (w.heap.size < (w.alloc (.cells #[.int .u32 pc, .int .i64 (many : Int), .slice (some ⟨g, 0, none⟩) ops.length cap] 34)).heap.size) := Lib.hid (by simp)
  obtain ⟨z, hz⟩ : ∃ z : Nat, ops.length = z + 1 := ⟨ops.length - 1, by have := hc.ne; omega⟩
  have hzl : z < ops.length := by omega
  have HZL := Lib.hid hz
  have hz2 : (ops.length : Int) - 1 = (z : Int) := by omega
  have hzw : IntKind.i64.wrap ((ops.length : Int) - 1) = (z : Int) := by rw [hz2]; exact IntWalk.i64_in _ ⟨by omega, by omega⟩
  have hz3 : (z : Int) < (ops.length : Int) := by omega
  have hout := hc.out z hzl
  rw [decide_eq_true (by omega)] at hout
  have HOUT := Lib.hid (fun wx => irOut_any (ops[z]'hzl) wx)
  rw [hout] at HOUT
  have HZC := Lib.hid (fun wx (hb : OpsAt wx g ops) => hb.cells z hzl)
  clear hAl hout h hc hz hm
  generalize hkz : (ops[z]'hzl) = oz at *
  have HG := Lib.hid hzl
  clear hkz hzl
  go_enter Tryz.func22, Tryz.ntmps22
  go_wp2_with fail
  generalize w.alloc (.cells #[.int .u32 pc, .int .i64 (many : Int), .slice (some ⟨g, 0, none⟩) ops.length cap] 34) = W at *
  refine HS.out.mono ?_
  rintro e w1 ⟨rfl, hb1⟩
  have HO1 := Lib.hid (HO.out.below hb1 HO.out.lt)
  have HB1 := Lib.hid (HAL.out.trans (hb1.mono HAL.out.size))
  have HBX1 := Lib.hid (show CodeBox w1 w.heap.size pc many (.slice (some ⟨g, 0, none⟩) ops.length cap) from (hb1.block _ HSZ.out).trans HBX.out)
  have HMX1 := Lib.hid ((hb1.cell (p := ⟨8, 0, none⟩) (Nat.lt_trans HML.out HSZ.out)).trans HMX.out)
  have HSZ1 := Lib.hid (Nat.lt_of_lt_of_le HSZ.out hb1.size)
  clear hb1 HO HBX HMX HSZ HAL HS
  obtain ⟨b0, b1, b2⟩ := HBX1.out.cells
  obtain ⟨c0, c1, c2, c3, c4, c5⟩ := HZC.out _ HO1.out
  go_wp2_with fail
  refine (HOUT.out _).mono ?_
  rintro e w2 ⟨rfl, hb2⟩
  have HO2 := Lib.hid (HO1.out.below hb2 HO1.out.lt)
  have HB2 := Lib.hid (HB1.out.trans (hb2.mono HB1.out.size))
  have HBX2 := Lib.hid (show CodeBox w2 w.heap.size pc many (.slice (some ⟨g, 0, none⟩) ops.length cap) from (hb2.block _ HSZ1.out).trans HBX1.out)
  have HMX2 := Lib.hid ((hb2.cell (p := ⟨8, 0, none⟩) (Nat.lt_trans HML.out HSZ1.out)).trans HMX1.out)
  have HSZ2 := Lib.hid (Nat.lt_of_lt_of_le HSZ1.out hb2.size)
  clear hb2 HO1 HBX1 HMX1 HSZ1 HB1 HOUT HZC b0 b1 b2 c0 c1 c2 c3 c4 c5 hz2 hzw hz3
  obtain ⟨b0, b1, b2⟩ := HBX2.out.cells
  go_wp2_with fail
  clear b0 b1 b2
  go_loopw [2, 47] (fun r i wr => ∃ j : Nat, j ≤ ops.length ∧ r = .nilIface ∧ i = .int .i64 (j : Int) ∧ Hid (Below w2.heap.size w2 wr)) (fun _ i _ => ops.length - (intOf i).toNat)
  case atStart => exact ⟨0, Nat.zero_le _, rfl, rfl, Lib.hid (Below.refl _ _)⟩
  case round =>
    obtain ⟨j, hj, rfl, rfl, HBj⟩ := hrel
    by_cases hlt : j < ops.length
    · have hjI : (j : Int) < (ops.length : Int) := by omega
      have HOj := Lib.hid (HO2.out.of_block (HBj.out.block g HO2.out.lt))
      have HBXj := Lib.hid (show CodeBox wr w.heap.size pc many (.slice (some ⟨g, 0, none⟩) ops.length cap) from (HBj.out.block _ HSZ2.out).trans HBX2.out)
      have HMXj := Lib.hid ((HBj.out.cell (p := ⟨8, 0, none⟩) (Nat.lt_trans HML.out HSZ2.out)).trans HMX2.out)
      have HSZj := Lib.hid (Nat.lt_of_lt_of_le HSZ2.out HBj.out.size)
      obtain ⟨c0, c1, c2, c3, c4, c5⟩ := HOj.out.cells j hlt
      have hgood := HC.out.good (ops[j]'hlt) (List.getElem_mem hlt)
      have HE := Lib.hid (fun wx (hx : wx.cell? ⟨8, 0, none⟩ = some (.int .i64 mx)) => irCheckOp_any hgood.2.1 hgood.1 wx hx)
      have HI := Lib.hid (fun wx => irOut_any (ops[j]'hlt) wx)
      rw [HC.out.out j hlt] at HI
      have HJ := Lib.hid hlt
      have HAT0 : Hid (∀ m (hmL : m < ops.length), j = m + 1 → ((ops[m]'hmL).at' : Int) ≤ ((ops[j]'hlt).at' : Int)) := by
        refine Lib.hid ?_
        intro m hmL hm
        have hsort := HC.out.sorted m (by omega)
        subst hm
        omega
      have hwb : wr.cell? ⟨w.heap.size, 1, none⟩ = some (.int .i64 (many : Int)) := HBXj.out.cells.2.1
      clear hgood
      generalize hoj : ops[j]'hlt = oj at *
      clear hoj hlt
      obtain ⟨ok, od1, oa1, ob1, oi1, ot1⟩ := oj
      simp only [opV] at c0 c1 c2 c3 c4 c5 HE HI HAT0
      generalize bsl ok.text = kt at *
      have hX := (Below.refl wr.heap.size wr).alloc (Nat.le_refl _) (.cells #[.string kt, .int .i64 (od1 : Int), .int .i64 (oa1 : Int), .int .i64 ob1, .int .u32 oi1, .int .i64 (ot1 : Int)] 61)
      have hwb2 : (wr.alloc (.cells #[.string kt, .int .i64 (od1 : Int), .int .i64 (oa1 : Int), .int .i64 ob1, .int .u32 oi1, .int .i64 (ot1 : Int)] 61)).cell? ⟨w.heap.size, 1, none⟩ = some (.int .i64 (many : Int)) := (hX.cell (p := ⟨w.heap.size, 1, none⟩) HSZj.out).trans hwb
      have hbX : (wr.alloc (.cells #[.string kt, .int .i64 (od1 : Int), .int .i64 (oa1 : Int), .int .i64 ob1, .int .u32 oi1, .int .i64 (ot1 : Int)] 61)).heap[wr.heap.size]? = some (.cells #[.string kt, .int .i64 (od1 : Int), .int .i64 (oa1 : Int), .int .i64 ob1, .int .u32 oi1, .int .i64 (ot1 : Int)] 61 (0, 0)) := heap_alloc_new wr _
      have hsX : (wr.alloc (.cells #[.string kt, .int .i64 (od1 : Int), .int .i64 (oa1 : Int), .int .i64 ob1, .int .u32 oi1, .int .i64 (ot1 : Int)] 61)).heap.size = wr.heap.size + 1 := by simp
      have HXX := Lib.hid (And.intro hX (And.intro hbX hsX))
      clear hwb hX hbX hsX
      go_wp2_with fail
      generalize wr.alloc (.cells #[.string kt, .int .i64 (od1 : Int), .int .i64 (oa1 : Int), .int .i64 ob1, .int .u32 oi1, .int .i64 (ot1 : Int)] 61) = X at *
      refine (HE.out _ ((HXX.out.1.cell (p := ⟨8, 0, none⟩) (Nat.lt_trans HML.out HSZj.out)).trans HMXj.out)).mono ?_
      rintro e w3 ⟨rfl, hb3⟩
      have hBO3 := (hb3.block _ (show wr.heap.size < X.heap.size by have := HXX.out.2.2; omega)).trans HXX.out.2.1
      have HB3 := Lib.hid (show Below wr.heap.size wr w3 from HXX.out.1.trans (hb3.mono HXX.out.1.size))
      have HBO3 := Lib.hid hBO3
      have HSZ3 := Lib.hid (show wr.heap.size < w3.heap.size by have := HXX.out.2.2; have := hb3.size; omega)
      clear hb3 hBO3 hwb2 c0 c1 c2 c3 c4 c5 HXX
      obtain ⟨e0, e1, e2, e3, e4, e5⟩ := six_cells HBO3.out
      go_wp2_with fail
      rename_i Kc hKc
      by_cases hj0 : j = 0
      · subst hj0
        cases hlast : decide (0 + 1 = ops.length) with
        | true =>
          rw [hlast] at HI
          have hzj : (ops.length : Int) - 1 = 0 := by have := of_decide_eq_true hlast; omega
          clear hlast
          refine wp_mono (ck_first_last (K := Kc) (g := 0) (cap := 0) (m := 0) (j := 0) (otm := 0) _ _ _ _ _ _ _ _ _ _ _ _ _ _ _ _ _ _ _ _ _ _ _ _ _ _ _ _ _ _ _ _ _ _ _ _ _ _ _ _ _ _ _ _ _ _ _ _ _ _ _ _ _ _ _ _ _ _ _ _ _ _ _ _ _ _ _ _ _ _ _ _ _ _ _ _ _ _ _ _ _ _ _ _ _ _ _ _ e0 e1 e2 e3 e4 e5 hzj HI (Lib.hid (fun u56 u57 u58 u59 u60 u61 u62 u63 u64 u65 u66 u67 u68 u69 u70 u71 u72 u73 u74 u75 u76 u77 u78 u79 u80 u81 u82 w4 hb4 => ?_))) (fun e a w h => by cases e <;> first | exact h | exact False.elim h)
          refine hKc _ _ ?_
          have HB4 := Lib.hid (HB3.out.trans (hb4.mono HB3.out.size))
          clear hb4 e0 e1 e2 e3 e4 e5 hzj
          go_wp2_with fail
          go_roundw
          case rel => exact ⟨0 + 1, HJ.out, rfl, by go_num, Lib.hid (HBj.out.trans (HB4.out.mono HBj.out.size))⟩
          case measure => have := HJ.out; go_light; simp [intOf]; omega
        | false =>
          rw [hlast] at HI
          clear hlast
          refine wp_mono (ck_first_mid (K := Kc) (g := 0) (cap := 0) (m := 0) (j := 0) (otm := 0) _ _ _ _ _ _ _ _ _ _ _ _ _ _ _ _ _ _ _ _ _ _ _ _ _ _ _ _ _ _ _ _ _ _ _ _ _ _ _ _ _ _ _ _ _ _ _ _ _ _ _ _ _ _ _ _ _ _ _ _ _ _ _ _ _ _ _ _ _ _ _ _ _ _ _ _ _ _ _ _ _ _ _ _ _ _ _ _ e0 e1 e2 e3 e4 e5 HI (Lib.hid (fun u56 u57 u58 u59 u60 u61 u62 u63 u64 u65 u66 u67 u68 u69 u70 u71 u72 u73 u74 u75 u76 u77 u78 u79 u80 u81 u82 w4 hb4 => ?_))) (fun e a w h => by cases e <;> first | exact h | exact False.elim h)
          refine hKc _ _ ?_
          have HB4 := Lib.hid (HB3.out.trans (hb4.mono HB3.out.size))
          clear hb4 e0 e1 e2 e3 e4 e5
          go_wp2_with fail
          go_roundw
          case rel => exact ⟨0 + 1, HJ.out, rfl, by go_num, Lib.hid (HBj.out.trans (HB4.out.mono HBj.out.size))⟩
          case measure => have := HJ.out; go_light; simp [intOf]; omega
      · obtain ⟨m, hm⟩ : ∃ m : Nat, j = m + 1 := ⟨j - 1, by omega⟩
        have hmL : m < ops.length := by have := HJ.out; omega
        have e6 := (show CodeBox w3 w.heap.size pc many (.slice (some ⟨g, 0, none⟩) ops.length cap) from (HB3.out.block _ HSZj.out).trans HBXj.out).cells.2.2
        have e7 := ((HOj.out.of_block (HB3.out.block g HOj.out.lt)).cells m hmL).2.2.2.2.2
        have hat := HAT0.out m hmL hm
        have hln : ops.length ≤ 100 := HC.out.len
        cases hlast : decide (j + 1 = ops.length) with
        | true =>
          rw [hlast] at HI
          have hzj : (ops.length : Int) - 1 = (m : Int) + 1 := by have := of_decide_eq_true hlast; omega
          clear hlast
          refine wp_mono (ck_next_last (K := Kc) _ _ _ _ _ _ _ _ _ _ _ _ _ _ _ _ _ _ _ _ _ _ _ _ _ _ _ _ _ _ _ _ _ _ _ _ _ _ _ _ _ _ _ _ _ _ _ _ _ _ _ _ _ _ _ _ _ _ _ _ _ _ _ _ _ _ _ _ _ _ _ _ _ _ _ _ _ _ _ _ _ _ _ _ _ _ _ _ e0 e1 e2 e3 e4 e5 e6 e7 hm hmL hln (by omega) hzj HI (Lib.hid (fun u56 u57 u58 u59 u60 u61 u62 u63 u64 u65 u66 u67 u68 u69 u70 u71 u72 u73 u74 u75 u76 u77 u78 u79 u80 u81 u82 w4 hb4 => ?_))) (fun e a w h => by cases e <;> first | exact h | exact False.elim h)
          refine hKc _ _ ?_
          have HB4 := Lib.hid (HB3.out.trans (hb4.mono HB3.out.size))
          clear hb4 e0 e1 e2 e3 e4 e5 e6 e7 hm hmL hln hat hzj
          go_wp2_with fail
          go_roundw
          case rel => exact ⟨j + 1, HJ.out, rfl, by go_num, Lib.hid (HBj.out.trans (HB4.out.mono HBj.out.size))⟩
          case measure => have := HJ.out; go_light; simp [intOf]; omega
        | false =>
          rw [hlast] at HI
          clear hlast
          refine wp_mono (ck_next_mid (K := Kc) _ _ _ _ _ _ _ _ _ _ _ _ _ _ _ _ _ _ _ _ _ _ _ _ _ _ _ _ _ _ _ _ _ _ _ _ _ _ _ _ _ _ _ _ _ _ _ _ _ _ _ _ _ _ _ _ _ _ _ _ _ _ _ _ _ _ _ _ _ _ _ _ _ _ _ _ _ _ _ _ _ _ _ _ _ _ _ _ e0 e1 e2 e3 e4 e5 e6 e7 hm hmL hln (by omega) HI (Lib.hid (fun u56 u57 u58 u59 u60 u61 u62 u63 u64 u65 u66 u67 u68 u69 u70 u71 u72 u73 u74 u75 u76 u77 u78 u79 u80 u81 u82 w4 hb4 => ?_))) (fun e a w h => by cases e <;> first | exact h | exact False.elim h)
          refine hKc _ _ ?_
          have HB4 := Lib.hid (HB3.out.trans (hb4.mono HB3.out.size))
          clear hb4 e0 e1 e2 e3 e4 e5 e6 e7 hm hmL hln hat
          go_wp2_with fail
          go_roundw
          case rel => exact ⟨j + 1, HJ.out, rfl, by go_num, Lib.hid (HBj.out.trans (HB4.out.mono HBj.out.size))⟩
          case measure => have := HJ.out; go_light; simp [intOf]; omega
    · obtain rfl : j = ops.length := by omega
      have hd : decide ((ops.length : Int) < (ops.length : Int)) = false := decide_eq_false (by omega)
      go_wp2
      go_ret
      exact ⟨rfl, HB2.out.trans (HBj.out.mono HB2.out.size)⟩
end Go.Proofs.YtlnefmgiiogcmaaGreatDoor
