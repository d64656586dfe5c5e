/- The walk of the document's bus, loads from devices. The document's bus as a whole: what a load and a store do, in memory and at devices. The walk of the document's step of an instruction: a state and a bus. The walk of ir's ins, by its ways. The listed errors' variables: what the condition gives of them. The walks of errors.Is and of plain.Code at the program's own errors. The walks of changelinglaw1.coded; plain facts for CodeBack. The walks of ir's right and of the law's regionError: they tell a region's error. The walk of the document's sums joined. Conditions: as each theorem states. -/
import Derived.Test.YtlnefmgiiogcmaaGreatDoorQ13
import Derived.Maps.OwnRows
import Derived.Maps.AppendAt
import Derived.Laws.BytesArg
import Derived.Test.YtlnefmgiiogcmaaGreatDoorQ09
import Derived.Deep.RegionHeld3
import Derived.Test.YtlnefmgiiogcmaaGreatDoorQ04
import Derived.Test.YtlnefmgiiogcmaaGreatDoorQ10
import Derived.Test.YtlnefmgiiogcmaaGreatDoorRows
import Derived.ProofKit
import Derived.LaidMore
import Derived.OpenShut
import Derived.Stop.Joined
import Derived.Stop.LaidErr
import Derived.WalkKit
import Derived.Handy
import Derived.LaidEql
import Derived.Stop.Asserts
import Derived.RowKitTokens
import Derived.Lib.Hide
import Derived.Test.YtlnefmgiiogcmaaGreatDoorQ08
import Derived.Test.YtlnefmgiiogcmaaGreatDoorQ12
import Derived.Test.YtlnefmgiiogcmaaGreatDoorQ14
import Derived.Test.YtlnefmgiiogcmaaGreatDoorQ15
import Derived.Test.YtlnefmgiiogcmaaGreatDoorQ16
import Derived.Test.YtlnefmgiiogcmaaGreatDoorQ17
set_option linter.unusedVariables false
set_option linter.unusedSimpArgs false
namespace Go.Proofs.YtlnefmgiiogcmaaGreatDoor
open Go.RowKit
structure AccN where
  count : Int
  store : Bool
  addr : Int
  value : Int
section
variable {w : World} {B b r : Nat} {out : List UInt8} {lamp : Int} {tv : Value} {tr : List AccN}
end
end Go.Proofs.YtlnefmgiiogcmaaGreatDoor
namespace Go.Proofs.YtlnefmgiiogcmaaGreatDoor
open Go.RowKit
structure BusF where
  ws : List Int
  hit : Nat → Bool
  out : List UInt8
  lamp : Int
  tr : List AccN
def BS (b bw bh : Nat) (tv : Value) : Nat → Prop := fun k => k = b ∨ tv.ownBlock = some k ∨ k = bw ∨ k = bh
def RowOn (w : World) (tv tv' : Value) : Prop := tv'.ownBlock = tv.ownBlock ∨ ∃ g, tv'.ownBlock = some g ∧ w.heap.size ≤ g
theorem RowOn.refl (w : World) (tv : Value) : RowOn w tv tv := .inl rfl
theorem RowOn.trans {w w' : World} {t1 t2 t3 : Value} (h : RowOn w t1 t2) (hs : w.heap.size ≤ w'.heap.size) (k : RowOn w' t2 t3) : RowOn w t1 t3 := by
  rcases k with e | ⟨g, e, hg⟩
  · rcases h with e2 | ⟨g, e2, hg⟩
    · exact .inl (e.trans e2)
    · exact .inr ⟨g, e.trans e2, hg⟩
  · exact .inr ⟨g, e, Nat.le_trans hs hg⟩
section
variable {w w' : World} {B b r bw ba bh : Nat} {tv : Value} {wt : Nat → Bool} {F : BusF}
end
end Go.Proofs.YtlnefmgiiogcmaaGreatDoor
namespace Go.Proofs.YtlnefmgiiogcmaaGreatDoor
open Go.RowKit
def CS (sb b bw bh : Nat) (tv : Value) : Nat → Prop := fun k => k = sb ∨ BS b bw bh tv k
section
variable {w w' : World} {B sb b r bw ba bh : Nat} {tv : Value} {wt : Nat → Bool} {s : StF} {F : BusF}
theorem CS.next {tv' : Value} (hk : RowOn w tv tv') {S : Nat → Prop} {k : Nat} (hlt : k < w.heap.size) (h : CS sb b bw bh tv' k) : CS sb b bw bh tv k := by
  rcases h with e | e | e | e | e
  · exact .inl e
  · exact .inr (.inl e)
  · rcases hk with e2 | ⟨g, e2, hg⟩
    · exact .inr (.inr (.inl (e2 ▸ e)))
    · rw [e2] at e; cases e; omega
  · exact .inr (.inr (.inr (.inl e)))
  · exact .inr (.inr (.inr (.inr e)))
theorem Kept.behind {S T : Nat → Prop} {a b' c : World} (h : Kept S a b') (k : Kept T b' c) (hs : ∀ i, i < a.heap.size → T i → S i) : Kept S a c :=
  ⟨h.below.trans k.below, fun i hi hn => (k.same i (Nat.lt_of_lt_of_le hi h.below.size) (fun ht => hn (hs i hi ht))).trans (h.same i hi hn)⟩
end
end Go.Proofs.YtlnefmgiiogcmaaGreatDoor
namespace Go.Proofs.YtlnefmgiiogcmaaGreatDoor
open Go.RowKit
set_option maxHeartbeats 4000000
theorem kindLit (n : Int) (l : List UInt8) (s : ByteArray) (h : kindOfB n = l) (hs : bsl l = s) (w : World) : Calls Tryz.prog 37 #[.int .i64 n] w fun e w' => e = .returned (.string s) ∧ Below w.heap.size w w' := by
  have := kindOf_any n w
  rw [h, hs] at this
  exact this
def AddsB (w0 w : World) (lb : Nat) (pc : Int) (n : Nat) (ops : List OpN) (b : Bool) (e : Ending) (w' : World) : Prop := e = .returned (.bool b) ∧ KeptT w w' ∧ ∃ ov', LwW w0 w' lb pc n ov' ops
section
variable {w0 w : World} {lb : Nat} {pc : Int} {n : Nat} {ov : Value} {ops : List OpN}
theorem ins_load (h : LwW w0 w lb pc n ov ops) (op s t d : Nat) (m : Int) (hm0 : 0 ≤ m) (hm1 : m < 65536) (hk : kindOfB (op : Int) = [108, 111, 97, 100]) (os : List OpN)
    (HC : ∀ wx, LwW w0 wx lb pc n ov ops → Calls Tryz.prog 40 #[.pointer (some ⟨lb, 0, none⟩), insA op s t d m, .int .u32 (wideS m)] wx fun e w' => Adds w0 wx lb pc n (ops ++ os) e w') :
    Calls Tryz.prog 19 #[.pointer (some ⟨lb, 0, none⟩), insA op s t d m] w fun e w' => AddsB w0 w lb pc n (ops ++ os) true e w' := by
  have HW := Lib.hid (fun wx => wide16_any m hm0 (by omega) wx)
  have HK := Lib.hid (fun wx => kindLit (op : Int) [108, 111, 97, 100] ⟨#[108, 111, 97, 100]⟩ hk rfl wx)
  have HB := h.box op s t d m
  have HF0 : InsB (boxW w op s t d m) w.heap.size op s t d m := Five.new w _ _ _ _ _ _
  have HC2 := Lib.hid HC
  generalize hq : wideS m = q at *
  clear h hq HC hk
  go_enter Tryz.func19, Tryz.ntmps19
  go_wp2_with fail
  refine (HW.out _).mono ?_
  rintro e w1 ⟨rfl, rfl⟩
  go_wp2_with fail
  refine (HK.out _).mono ?_
  rintro e w2 ⟨rfl, hb⟩
  have HF1 : InsB w2 w.heap.size op s t d m := Five.below HF0 hb (by simp)
  obtain ⟨c0, c1, c2, c3, c4⟩ := Five.cells HF1
  have HD := Lib.hid (HC2.out w2 (HB.trans hb))
  have HBB := Lib.hid hb
  clear hb HF0 HF1
  go_wp2_with fail
  refine HD.out.mono ?_
  rintro e w3 ⟨rfl, hK, ov1, hL⟩
  have HL := Lib.hid hL
  have HK1 := Lib.hid hK
  clear hL hK
  go_wp2
  go_ret
  exact ⟨rfl, boxW.kept ((KeptT.of_below HBB.out).trans HK1.out), ov1, HL.out⟩
theorem ins_sum (h : LwW w0 w lb pc n ov ops) (op s t d : Nat) (m : Int) (hm0 : 0 ≤ m) (hm1 : m < 65536) (hk : kindOfB (op : Int) = [115, 117, 109]) (os : List OpN)
    (HC : ∀ wx, LwW w0 wx lb pc n ov ops → Calls Tryz.prog 42 #[.pointer (some ⟨lb, 0, none⟩), insA op s t d m, .int .u32 (wideS m)] wx fun e w' => Adds w0 wx lb pc n (ops ++ os) e w') :
    Calls Tryz.prog 19 #[.pointer (some ⟨lb, 0, none⟩), insA op s t d m] w fun e w' => AddsB w0 w lb pc n (ops ++ os) true e w' := by
  have HW := Lib.hid (fun wx => wide16_any m hm0 (by omega) wx)
  have HK := Lib.hid (fun wx => kindLit (op : Int) [115, 117, 109] ⟨#[115, 117, 109]⟩ hk rfl wx)
  have HB := h.box op s t d m
  have HF0 : InsB (boxW w op s t d m) w.heap.size op s t d m := Five.new w _ _ _ _ _ _
  have HC2 := Lib.hid HC
  generalize hq : wideS m = q at *
  clear h hq HC hk
  go_enter Tryz.func19, Tryz.ntmps19
  go_wp2_with fail
  refine (HW.out _).mono ?_
  rintro e w1 ⟨rfl, rfl⟩
  go_wp2_with fail
  refine (HK.out _).mono ?_
  rintro e w2 ⟨rfl, hb⟩
  have HF1 : InsB w2 w.heap.size op s t d m := Five.below HF0 hb (by simp)
  obtain ⟨c0, c1, c2, c3, c4⟩ := Five.cells HF1
  have HD := Lib.hid (HC2.out w2 (HB.trans hb))
  have HBB := Lib.hid hb
  clear hb HF0 HF1
  go_wp2_with fail
  refine HD.out.mono ?_
  rintro e w3 ⟨rfl, hK, ov1, hL⟩
  have HL := Lib.hid hL
  have HK1 := Lib.hid hK
  clear hL hK
  go_wp2
  go_ret
  exact ⟨rfl, boxW.kept ((KeptT.of_below HBB.out).trans HK1.out), ov1, HL.out⟩
theorem ins_store (h : LwW w0 w lb pc n ov ops) (hl : ops.length < 900) (op s t d z : Nat) (m : Int) (hm0 : 0 ≤ m) (hm1 : m < 65536) (hk : kindOfB (op : Int) = [115, 116, 111, 114, 101]) (hop : op ∈ [46, 47, 48, 49, 50, 51, 52, 53]) (hz : (sizeT op).1 = z) :
    Calls Tryz.prog 19 #[.pointer (some ⟨lb, 0, none⟩), insA op s t d m] w fun e w' => AddsB w0 w lb pc n (ops ++ [⟨.store, z, s, (t : Int), wideS m, n⟩]) true e w' := by
  have HW := Lib.hid (fun wx => wide16_any m hm0 (by omega) wx)
  have HK := Lib.hid (fun wx => kindLit (op : Int) [115, 116, 111, 114, 101] ⟨#[115, 116, 111, 114, 101]⟩ hk rfl wx)
  have HS : Hid (∀ wx, Calls Tryz.prog 41 #[.int .i64 (op : Int)] wx fun e w' => e = .returned (.tuple #[.int .i64 (z : Int), .bool (sizeT op).2]) ∧ wx = w') := by
    refine Lib.hid ?_
    intro wx
    have := size_any op hop wx
    rw [hz] at this
    exact this
  have HB := h.box op s t d m
  have HF0 : InsB (boxW w op s t d m) w.heap.size op s t d m := Five.new w _ _ _ _ _ _
  have HDO : Hid (∀ wx, LwW w0 wx lb pc n ov ops → Calls Tryz.prog 21 #[.pointer (some ⟨lb, 0, none⟩), .string ⟨#[115, 116, 111, 114, 101]⟩, .int .i64 (z : Int), .int .i64 (s : Int), .int .i64 (t : Int), .int .u32 (wideS m)] wx fun e w' => Adds w0 wx lb pc n (ops ++ [⟨.store, z, s, (t : Int), wideS m, n⟩]) e w') := Lib.hid fun wx hx => do_any hx (by omega) .store z s (t : Int) (wideS m)
  generalize hq : wideS m = q at *
  generalize (sizeT op).2 = sg at *
  clear h hq hk hz hl
  go_enter Tryz.func19, Tryz.ntmps19
  go_wp2_with fail
  refine (HW.out _).mono ?_
  rintro e w1 ⟨rfl, rfl⟩
  go_wp2_with fail
  refine (HK.out _).mono ?_
  rintro e w2 ⟨rfl, hb⟩
  have HF1 : InsB w2 w.heap.size op s t d m := Five.below HF0 hb (by simp)
  obtain ⟨c0, c1, c2, c3, c4⟩ := Five.cells HF1
  have HD := Lib.hid (HDO.out w2 (HB.trans hb))
  have HBB := Lib.hid hb
  clear hb HF0 HF1
  go_wp2_with fail
  refine (HS.out _).mono ?_
  rintro e w4 ⟨rfl, rfl⟩
  go_wp2_with fail
  refine HD.out.mono ?_
  rintro e w3 ⟨rfl, hK, ov1, hL⟩
  have HL := Lib.hid hL
  have HK1 := Lib.hid hK
  clear hL hK
  go_wp2
  go_ret
  exact ⟨rfl, boxW.kept ((KeptT.of_below HBB.out).trans HK1.out), ov1, HL.out⟩
end
end Go.Proofs.YtlnefmgiiogcmaaGreatDoor
namespace Go.Proofs.YtlnefmgiiogcmaaGreatDoor
open Go.ChangeShapes Go.WideShapes Go.ChangeAt Go.RowKit
theorem own : ownKnob Tryz.prog.godebug = none := by kernel_rfl
theorem gErrKind : Tryz.prog.globalNamed "changeling/api.ErrKind" = some 4 := by kernel_rfl
theorem gErrBound : Tryz.prog.globalNamed "changeling/api.ErrBound" = some 0 := by kernel_rfl
theorem cellsES : Tryz.prog.cellsOf 199 = 1 := by kernel_rfl
theorem cellsStr : Tryz.prog.cellsOf 9 = 1 := by kernel_rfl
theorem rowES (u : TypeId) (h : Tryz.prog.typeName? 3 u = some "*errors.errorString") : u = 182 :=
  typeName_ptr_named (nm := "errors.errorString") (by kernel_rfl) (by kernel_rfl) (by decide) u h
end Go.Proofs.YtlnefmgiiogcmaaGreatDoor
namespace Go.Proofs.YtlnefmgiiogcmaaGreatDoor
open Go.RowKit Go.Extern.Stop Go.Stop Go.Extern
structure Sents (w : World) (ad : Nat → Addr) : Prop where
  c1 : w.cell? ⟨0, 0, none⟩ = some (.iface 182 (.pointer (some (ad 1))))
  c2 : w.cell? ⟨1, 0, none⟩ = some (.iface 182 (.pointer (some (ad 2))))
  c3 : w.cell? ⟨4, 0, none⟩ = some (.iface 182 (.pointer (some (ad 3))))
  c5 : w.cell? ⟨3, 0, none⟩ = some (.iface 182 (.pointer (some (ad 5))))
  c6 : w.cell? ⟨6, 0, none⟩ = some (.iface 182 (.pointer (some (ad 6))))
  c7 : w.cell? ⟨5, 0, none⟩ = some (.iface 182 (.pointer (some (ad 7))))
  c8 : w.cell? ⟨2, 0, none⟩ = some (.iface 182 (.pointer (some (ad 8))))
  c9 : w.cell? ⟨7, 0, none⟩ = some (.iface 182 (.pointer (some (ad 9))))
theorem Sents.below {w w' : World} {ad : Nat → Addr} (h : Sents w ad) (hb : Below w.heap.size w w') : Sents w' ad where
  c1 := (hb.cell (World.block_lt_of_cell? w _ h.c1)).trans h.c1
  c2 := (hb.cell (World.block_lt_of_cell? w _ h.c2)).trans h.c2
  c3 := (hb.cell (World.block_lt_of_cell? w _ h.c3)).trans h.c3
  c5 := (hb.cell (World.block_lt_of_cell? w _ h.c5)).trans h.c5
  c6 := (hb.cell (World.block_lt_of_cell? w _ h.c6)).trans h.c6
  c7 := (hb.cell (World.block_lt_of_cell? w _ h.c7)).trans h.c7
  c8 := (hb.cell (World.block_lt_of_cell? w _ h.c8)).trans h.c8
  c9 := (hb.cell (World.block_lt_of_cell? w _ h.c9)).trans h.c9
end Go.Proofs.YtlnefmgiiogcmaaGreatDoor
namespace Go.Proofs.YtlnefmgiiogcmaaGreatDoor
open Go.RowKit
theorem name_full (k : Nat) (h1 : 1 ≤ k) (h2 : k < 54) : (nameS (k : Int)).toList.isEmpty = false := by
  have all : ∀ k : Nat, k < 54 → (1 ≤ k → (nameS (k : Int)).toList.isEmpty = false) := by decide +kernel
  exact all k h2 h1
theorem name_none (n : Int) (h : n ≤ 0 ∨ 54 ≤ n) : (nameS n).toList.isEmpty = true := by
  have e : nameS n = ⟨#[]⟩ := by
    unfold nameS
    rcases h with h | h
    · rw [show n.toNat = 0 from by omega]; rfl
    · rw [nameB_big _ (by omega)]; rfl
  rw [e]
  decide +kernel
end Go.Proofs.YtlnefmgiiogcmaaGreatDoor
namespace Go.Proofs.YtlnefmgiiogcmaaGreatDoor
open Go.RowKit
structure InsAt (w : World) (g o : Nat) (L : List InsN) : Prop where
  row : ∀ j (h : j < L.length), w.cell? ⟨g, o + j * 5, none⟩ = some (.int .i64 L[j].op) ∧ w.cell? ⟨g, o + j * 5 + 1, none⟩ = some (.int .i64 L[j].s) ∧ w.cell? ⟨g, o + j * 5 + 2, none⟩ = some (.int .i64 L[j].t) ∧ w.cell? ⟨g, o + j * 5 + 3, none⟩ = some (.int .i64 L[j].d) ∧ w.cell? ⟨g, o + j * 5 + 4, none⟩ = some (.int .u32 L[j].imm)
theorem InsAt.of_block {w w' : World} {g o : Nat} {L : List InsN} (h : InsAt w g o L) (e : w'.heap[g]? = w.heap[g]?) : InsAt w' g o L where
  row j hj := by
    obtain ⟨c0, c1, c2, c3, c4⟩ := h.row j hj
    exact ⟨(World.cell?_of_block (a := ⟨g, _, none⟩) e).trans c0, (World.cell?_of_block (a := ⟨g, _, none⟩) e).trans c1, (World.cell?_of_block (a := ⟨g, _, none⟩) e).trans c2, (World.cell?_of_block (a := ⟨g, _, none⟩) e).trans c3, (World.cell?_of_block (a := ⟨g, _, none⟩) e).trans c4⟩
theorem InsAt.below {w w' : World} {g o : Nat} {L : List InsN} (h : InsAt w g o L) (hb : Below w.heap.size w w') (hl : 0 < L.length) : InsAt w' g o L := h.of_block (hb.block g (World.block_lt_of_cell? _ _ (h.row 0 hl).1))
abbrev errI (a : Addr) : Value := .iface 182 (.pointer (some a))
theorem low_op {i : InsN} (h : ¬ (i.op < 1 ∨ 54 ≤ i.op)) : ∃ m : Nat, i.op = (m : Int) ∧ 1 ≤ m ∧ m < 54 := ⟨i.op.toNat, by omega, by omega, by omega⟩
theorem enc_yes (i : InsN) (hi : i.Fits) (h : insErr i = false) (ad : Nat → Addr) (w : World) (hS : Sents w ad) : Calls Tryz.prog 36 #[insV i] w fun e w' => e = .returned (.tuple #[.int .u32 (encL i (fieldsB i.op.toNat)), .nilIface]) ∧ Below w.heap.size w w' := by
  unfold insErr at h
  simp only [Bool.or_eq_false_iff, decide_eq_false_iff_not] at h
  obtain ⟨m, hm, m1, m2⟩ := low_op h.1
  have hn : (nameS i.op).toList.isEmpty = false := by rw [hm]; exact name_full m m1 m2
  exact (encode_some i hi hn _ _ w hS.c3 hS.c1).mono fun en w' x => ⟨by rw [x.1, encRes_good h.2], x.2⟩
theorem enc_no (i : InsN) (hi : i.Fits) (h : insErr i = true) (ad : Nat → Addr) : ∃ k, ∀ w, Sents w ad → Calls Tryz.prog 36 #[insV i] w fun e w' => e = .returned (.tuple #[.int .u32 0, errI (ad k)]) ∧ Below w.heap.size w w' := by
  by_cases hlow : i.op < 1 ∨ 54 ≤ i.op
  · exact ⟨3, fun w hS => encode_none i (name_none i.op (by omega)) _ _ w hS.c3 hS.c1⟩
  · unfold insErr at h
    rw [decide_eq_false hlow, Bool.false_or] at h
    obtain ⟨m, hm, m1, m2⟩ := low_op hlow
    have hn : (nameS i.op).toList.isEmpty = false := by rw [hm]; exact name_full m m1 m2
    exact ⟨1, fun w hS => (encode_some i hi hn _ _ w hS.c3 hS.c1).mono fun en w' x => ⟨by rw [x.1, encRes_bad h], x.2⟩⟩
theorem bsl_toList' (l : List UInt8) : (bsl l).toList = l := by
  simp [bsl]
theorem storesN_take (l : List InsN) (j : Nat) (h : j < l.length) : storesN (l.take (j + 1)) = storesN (l.take j) + (if kindOfB l[j].op = storeB then 1 else 0) := by
  rw [List.take_add_one, storesN_app, List.getElem?_eq_getElem h]
  congr 1
  unfold storesN
  by_cases e : kindOfB l[j].op = storeB
  · rw [if_pos e]; simp [e]
  · rw [if_neg e]; simp [e]
theorem storesN_le (l : List InsN) : storesN l ≤ l.length := List.length_filter_le _ _
theorem regErr_ok {l : List InsN} (h0 : l ≠ []) (h1 : l.length ≤ 24) (ha : ∀ j (h : j < l.length), okAt l.length j l[j] = true) : regErr l = if storesN l ≤ 8 then 0 else 4 := by
  have : allOk l.length l 0 = true := (allOk_at _ _ _).2 (fun j hj => by rw [Nat.zero_add]; exact ha j hj)
  unfold regErr
  rw [if_neg h0, if_neg (by omega)]
  by_cases e : storesN l ≤ 8
  · rw [if_pos e, if_pos ⟨this, e⟩]
  · rw [if_neg e, if_neg (fun x => e x.2)]
theorem regErr_bad {l : List InsN} (h0 : l ≠ []) (h1 : l.length ≤ 24) {j : Nat} (h : j < l.length) (hb : okAt l.length j l[j] = false) : regErr l = 4 := by
  unfold regErr
  rw [if_neg h0, if_neg (by omega), if_neg]
  rintro ⟨ha, _⟩
  have := (allOk_at _ _ _).1 ha j h
  rw [Nat.zero_add, hb] at this
  cases this
end Go.Proofs.YtlnefmgiiogcmaaGreatDoor
namespace Go.Proofs.YtlnefmgiiogcmaaGreatDoor
open Go.RowKit
abbrev gsOf (s : StF) : GS := ⟨s.r, s.hi, s.lo, s.pc, s.next, s.slot⟩
end Go.Proofs.YtlnefmgiiogcmaaGreatDoor
