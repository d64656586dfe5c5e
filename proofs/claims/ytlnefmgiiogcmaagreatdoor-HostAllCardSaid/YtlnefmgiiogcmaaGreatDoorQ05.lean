/- The plain law of lowering, fifth part: what a region becomes is a right code. No program in sight. Conditions: as each theorem states. -/
import Derived.Test.YtlnefmgiiogcmaaGreatDoorQ04
set_option linter.unusedVariables false
set_option linter.unusedSimpArgs false
namespace Go.Proofs.YtlnefmgiiogcmaaGreatDoor
open Go.RowKit
def outK (k : OpK) : Bool := match k with | .out => true | .outr => true | _ => false
def opG (o : OpN) : Prop := match o.kind with
  | .set => 1 ≤ o.d ∧ o.d < 64 ∧ o.a = 0 ∧ o.b = 0
  | .copy => 1 ≤ o.d ∧ o.d < 64 ∧ o.a < 64 ∧ o.b = 0 ∧ o.imm = 0
  | .overP => o.d = 0 ∧ o.a < 64 ∧ 0 ≤ o.b ∧ o.b < 64 ∧ o.imm = 0
  | .overM => o.d = 0 ∧ o.a < 64 ∧ 0 ≤ o.b ∧ o.b < 64 ∧ o.imm = 0
  | .load => 1 ≤ o.d ∧ o.d < 64 ∧ o.a < 64 ∧ (o.b = 1 ∨ o.b = 2 ∨ o.b = 4 ∨ o.b = -1 ∨ o.b = -2)
  | .store => (o.d = 1 ∨ o.d = 2 ∨ o.d = 4) ∧ o.a < 64 ∧ 0 ≤ o.b ∧ o.b < 64
  | .cond => o.d = 0 ∧ o.a < 64 ∧ o.b = 0
  | .out => o.d = 0 ∧ o.a = 0 ∧ o.b = 0
  | .outr => o.d = 0 ∧ o.a < 64 ∧ o.b = 0 ∧ o.imm = 0
  | _ => 1 ≤ o.d ∧ o.d < 64 ∧ o.a < 64 ∧ 0 ≤ o.b ∧ o.b < 64 ∧ o.imm = 0
def storeK (k : OpK) : Bool := match k with | .store => true | _ => false
def storesO (l : List OpN) : Nat := (l.filter fun o => storeK o.kind).length
theorem storesO_app (a b : List OpN) : storesO (a ++ b) = storesO a + storesO b := by simp [storesO]
structure OpsG (n s : Nat) (l : List OpN) : Prop where
  all : ∀ o ∈ l, o.at' = n ∧ opG o ∧ Reg32 o.imm ∧ outK o.kind = false
  len : l.length ≤ 3
  st : storesO l = s
theorem sumG {k : OpK} (hk : isSumK k = true ∨ k = .quo ∨ k = .rem ∨ k = .quou ∨ k = .remu) {d a b n : Nat} (hd : 1 ≤ d) (hd2 : d < 64) (ha : a < 64) (hb : b < 64) : opG ⟨k, d, a, (b : Int), 0, n⟩ ∧ Reg32 (0 : Int) ∧ outK k = false ∧ storeK k = false := by
  rcases hk with hk | rfl | rfl | rfl | rfl
  · cases k
    all_goals first
      | (exact absurd hk (by decide))
      | (refine ⟨⟨hd, hd2, ha, ?_, ?_, rfl⟩, r32_0, rfl, rfl⟩ <;> simp <;> omega)
  all_goals (refine ⟨⟨hd, hd2, ha, ?_, ?_, rfl⟩, r32_0, rfl, rfl⟩ <;> simp <;> omega)
theorem OpsG.sum {k : OpK} (hk : isSumK k = true) {d a b n : Nat} (hd : d < 64) (ha : a < 64) (hb : b < 64) : (∀ o ∈ sumOp k d a b n, o.at' = n ∧ opG o ∧ Reg32 o.imm ∧ outK o.kind = false) ∧ (sumOp k d a b n).length ≤ 1 ∧ storesO (sumOp k d a b n) = 0 := by
  unfold sumOp
  split
  · exact ⟨fun o ho => (by cases ho), by simp, rfl⟩
  · next h0 =>
    obtain ⟨g1, g2, g3, g4⟩ := sumG (n := n) (Or.inl hk) (show 1 ≤ d by omega) hd ha hb
    refine ⟨fun o ho => ?_, by simp, ?_⟩
    · simp only [List.mem_cons, List.not_mem_nil, or_false] at ho
      subst ho
      exact ⟨rfl, g1, g2, g3⟩
    · simp [storesO, g4]
theorem OpsG.set {d n : Nat} {v : Int} (hd : d < 64) (hv : Reg32 v) : (∀ o ∈ setOp d v n, o.at' = n ∧ opG o ∧ Reg32 o.imm ∧ outK o.kind = false) ∧ (setOp d v n).length ≤ 1 ∧ storesO (setOp d v n) = 0 := by
  unfold setOp
  split
  · exact ⟨fun o ho => (by cases ho), by simp, rfl⟩
  · next h0 =>
    refine ⟨fun o ho => ?_, by simp, by simp [storesO, storeK]⟩
    simp only [List.mem_cons, List.not_mem_nil, or_false] at ho
    subst ho
    exact ⟨rfl, ⟨by simp only; omega, hd, rfl, rfl⟩, hv, rfl⟩
theorem OpsG.copy {d a n : Nat} (hd : d < 64) (ha : a < 64) : (∀ o ∈ copyOp d a n, o.at' = n ∧ opG o ∧ Reg32 o.imm ∧ outK o.kind = false) ∧ (copyOp d a n).length ≤ 1 ∧ storesO (copyOp d a n) = 0 := by
  unfold copyOp
  split
  · exact ⟨fun o ho => (by cases ho), by simp, rfl⟩
  · next h0 =>
    refine ⟨fun o ho => ?_, by simp, by simp [storesO, storeK]⟩
    simp only [List.mem_cons, List.not_mem_nil, or_false] at ho
    subst ho
    exact ⟨rfl, ⟨by simp only; omega, hd, ha, rfl, rfl⟩, r32_0, rfl⟩
structure PartG (n k s : Nat) (l : List OpN) : Prop where
  all : ∀ o ∈ l, o.at' = n ∧ opG o ∧ Reg32 o.imm ∧ outK o.kind = false
  len : l.length ≤ k
  st : storesO l = s
theorem PartG.app {n k1 k2 s1 s2 : Nat} {a b : List OpN} (ha : PartG n k1 s1 a) (hb : PartG n k2 s2 b) : PartG n (k1 + k2) (s1 + s2) (a ++ b) where
  all o ho := by rcases List.mem_append.1 ho with h | h; exact ha.all o h; exact hb.all o h
  len := by rw [List.length_append]; have := ha.len; have := hb.len; omega
  st := by rw [storesO_app, ha.st, hb.st]
theorem PartG.sum {k : OpK} (hk : isSumK k = true) {d a b n : Nat} (hd : d < 64) (ha : a < 64) (hb : b < 64) : PartG n 1 0 (sumOp k d a b n) := ⟨(OpsG.sum hk hd ha hb).1, (OpsG.sum hk hd ha hb).2.1, (OpsG.sum hk hd ha hb).2.2⟩
theorem PartG.set {d n : Nat} {v : Int} (hd : d < 64) (hv : Reg32 v) : PartG n 1 0 (setOp d v n) := ⟨(OpsG.set hd hv).1, (OpsG.set hd hv).2.1, (OpsG.set hd hv).2.2⟩
theorem PartG.copy {d a n : Nat} (hd : d < 64) (ha : a < 64) : PartG n 1 0 (copyOp d a n) := ⟨(OpsG.copy hd ha).1, (OpsG.copy hd ha).2.1, (OpsG.copy hd ha).2.2⟩
theorem PartG.one {o : OpN} {n s : Nat} (h : o.at' = n) (hg : opG o) (hi : Reg32 o.imm) (ho : outK o.kind = false) (hs : (if storeK o.kind = true then 1 else 0) = s) : PartG n 1 s [o] where
  all x hx := by simp only [List.mem_cons, List.not_mem_nil, or_false] at hx; subst hx; exact ⟨h, hg, hi, ho⟩
  len := Nat.le_refl _
  st := by
    subst hs
    unfold storesO
    cases hst : storeK o.kind
    · simp [hst]
    · simp [hst]
theorem PartG.over {a b n : Nat} (ha : a < 64) (hb : b < 64) : PartG n 1 0 [⟨.overP, 0, a, (b : Int), 0, n⟩] := .one rfl ⟨rfl, ha, by simp, by simp only; omega, rfl⟩ r32_0 rfl rfl
theorem PartG.overM {a b n : Nat} (ha : a < 64) (hb : b < 64) : PartG n 1 0 [⟨.overM, 0, a, (b : Int), 0, n⟩] := .one rfl ⟨rfl, ha, by simp, by simp only; omega, rfl⟩ r32_0 rfl rfl
theorem PartG.long {k : OpK} (hk : isSumK k = true ∨ k = .quo ∨ k = .rem ∨ k = .quou ∨ k = .remu) {d a b n : Nat} (hd : 1 ≤ d) (hd2 : d < 64) (ha : a < 64) (hb : b < 64) : PartG n 1 0 [⟨k, d, a, (b : Int), 0, n⟩] := by
  obtain ⟨g1, g2, g3, g4⟩ := sumG (n := n) hk hd hd2 ha hb
  exact .one rfl g1 g2 g3 (by simp only; rw [g4]; rfl)
theorem PartG.load {d a n : Nat} {b v : Int} (hd : d < 32) (ha : a < 64) (hb : b = 1 ∨ b = 2 ∨ b = 4 ∨ b = -1 ∨ b = -2) (hv : Reg32 v) : PartG n 1 0 [⟨.load, if d = 0 then 34 else d, a, b, v, n⟩] := by
  refine .one rfl ⟨?_, ?_, ha, hb⟩ hv rfl rfl
  · simp only; split <;> omega
  · simp only; split <;> omega
theorem PartG.store {d a b n : Nat} {v : Int} (hd : d = 1 ∨ d = 2 ∨ d = 4) (ha : a < 64) (hb : b < 64) (hv : Reg32 v) : PartG n 1 1 [⟨.store, d, a, (b : Int), v, n⟩] :=
  .one rfl ⟨hd, ha, by simp, by simp only; omega⟩ hv rfl rfl
theorem PartG.done {n k s : Nat} {l : List OpN} (h : PartG n k s l) (hk : k ≤ 3) : PartG n 3 s l := ⟨h.all, Nat.le_trans h.len hk, h.st⟩
def isSt (op : Nat) : Bool := [51, 52, 53].contains op
theorem insG {op s t d n : Nat} {m : Int} (hop : plainOp op = true) (hs : s < 32) (ht : t < 32) (hd : d < 32) (hm : Reg32 m) : PartG n 3 (if isSt op = true then 1 else 0) (lowIns op s t d m n) := by
  have s6 : s < 64 := by omega
  have t6 : t < 64 := by omega
  have d6 : d < 64 := by omega
  have hw := wideS_ok m
  have h1 := plain_cases hop
  simp only [List.mem_cons, List.not_mem_nil, or_false] at h1
  rcases h1 with rfl | rfl | rfl | rfl | rfl | rfl | rfl | rfl | rfl | rfl | rfl | rfl | rfl | rfl | rfl | rfl | rfl | rfl | rfl | rfl | rfl | rfl | rfl | rfl | rfl | rfl | rfl | rfl | rfl | rfl | rfl | rfl | rfl | rfl | rfl | rfl | rfl | rfl | rfl | rfl
  all_goals first
    | exact (PartG.sum rfl d6 s6 t6).done (by decide)
    | exact (PartG.sum rfl d6 t6 s6).done (by decide)
    | exact ((PartG.set (by decide) hm).app (PartG.sum rfl d6 t6 (by decide))).done (by decide)
    | exact ((PartG.set (by decide) hm).app (PartG.sum rfl t6 s6 (by decide))).done (by decide)
    | exact ((PartG.set (by decide) hw).app (PartG.sum rfl t6 s6 (by decide))).done (by decide)
    | exact ((PartG.set (by decide) hw).app ((PartG.over s6 (show 34 < 64 by decide)).app (PartG.sum (k := .add) rfl t6 s6 (show 34 < 64 by decide)))).done (by decide)
    | exact ((PartG.over s6 t6).app (PartG.sum (k := .add) rfl d6 s6 t6)).done (by decide)
    | exact ((PartG.overM s6 t6).app (PartG.sum (k := .sub) rfl d6 s6 t6)).done (by decide)
    | exact (PartG.set t6 (r32_mod _)).done (by decide)
    | exact (PartG.copy d6 (by decide)).done (by decide)
    | exact (PartG.copy (by decide) s6).done (by decide)
    | exact ((PartG.long (k := .mulh) (Or.inl rfl) (show 1 ≤ 32 by decide) (by decide) s6 t6).app (PartG.long (k := .mul) (Or.inl rfl) (show 1 ≤ 33 by decide) (by decide) s6 t6)).done (by decide)
    | exact ((PartG.long (k := .mulhu) (Or.inl rfl) (show 1 ≤ 32 by decide) (by decide) s6 t6).app (PartG.long (k := .mul) (Or.inl rfl) (show 1 ≤ 33 by decide) (by decide) s6 t6)).done (by decide)
    | exact ((PartG.long (k := .quo) (Or.inr (Or.inl rfl)) (show 1 ≤ 33 by decide) (by decide) s6 t6).app (PartG.long (k := .rem) (Or.inr (Or.inr (Or.inl rfl))) (show 1 ≤ 32 by decide) (by decide) s6 t6)).done (by decide)
    | exact ((PartG.long (k := .quou) (Or.inr (Or.inr (Or.inr (Or.inl rfl)))) (show 1 ≤ 33 by decide) (by decide) s6 t6).app (PartG.long (k := .remu) (Or.inr (Or.inr (Or.inr (Or.inr rfl)))) (show 1 ≤ 32 by decide) (by decide) s6 t6)).done (by decide)
    | exact (PartG.load ht s6 (by decide) hw).done (by decide)
    | exact (PartG.store (Or.inl rfl) s6 t6 hw).done (by decide)
    | exact (PartG.store (Or.inr (Or.inl rfl)) s6 t6 hw).done (by decide)
    | exact (PartG.store (Or.inr (Or.inr rfl)) s6 t6 hw).done (by decide)
theorem brG {op s t d n : Nat} {pc : Int} (hop : brOp op = true) (hs : s < 32) (ht : t < 32) (hd : d < 32) : PartG n 3 0 (lowBr pc op s t d n) := by
  have s6 : s < 64 := by omega
  have t6 : t < 64 := by omega
  have d6 : d < 64 := by omega
  have hm : op = 7 ∨ op = 8 ∨ op = 29 ∨ op = 30 ∨ op = 31 ∨ op = 32 ∨ op = 33 ∨ op = 34 := by
    unfold brOp at hop
    simpa using hop
  have h1 : Reg32 1 := ⟨by decide, by decide⟩
  have hcp : PartG n 1 0 [⟨.copy, 37, s, 0, 0, n⟩] := .one rfl ⟨show 1 ≤ 37 by decide, show 37 < 64 by decide, s6, rfl, rfl⟩ r32_0 rfl rfl
  have hst : PartG n 1 0 [⟨.set, 35, 0, 0, 1, n⟩] := .one rfl ⟨show 1 ≤ 35 by decide, show 35 < 64 by decide, rfl, rfl⟩ h1 rfl rfl
  rcases hm with rfl | rfl | rfl | rfl | rfl | rfl | rfl | rfl
  · exact hcp.done (by decide)
  · exact (hcp.app (PartG.set d6 (r32_mod _))).done (by decide)
  · exact ⟨fun o ho => (by cases ho), by simp [lowBr], rfl⟩
  · exact (PartG.set (by decide) (r32_mod _)).done (by decide)
  · exact ((PartG.long (k := .xor) (Or.inl rfl) (show 1 ≤ 34 by decide) (by decide) s6 t6).app (hst.app (PartG.long (k := .sltu) (a := 34) (b := 35) (Or.inl rfl) (show 1 ≤ 36 by decide) (by decide) (by decide) (by decide)))).done (by decide)
  · exact (PartG.long (k := .xor) (Or.inl rfl) (show 1 ≤ 36 by decide) (by decide) s6 t6).done (by decide)
  · exact (hst.app (PartG.long (k := .slt) (b := 35) (Or.inl rfl) (show 1 ≤ 36 by decide) (by decide) s6 (by decide))).done (by decide)
  · exact (PartG.long (k := .slt) (a := 0) (Or.inl rfl) (show 1 ≤ 36 by decide) (by decide) (by decide) s6).done (by decide)
end Go.Proofs.YtlnefmgiiogcmaaGreatDoor
