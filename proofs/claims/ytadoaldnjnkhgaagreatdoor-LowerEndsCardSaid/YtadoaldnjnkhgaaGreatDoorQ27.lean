/- The walk of ir's ins, by its ways. The listed errors' variables: what the condition gives of them. The walks of errors.As and errors.Is at the program's own errors. The walks of errors.Is and of plain.Code at the program's own errors. The walks of changelinglaw1.coded; plain facts for CodeBack. The walks of ir's right and of the law's regionError: they tell a region's error. The walk of the document's sums joined. Conditions: as each theorem states. -/
import Derived.Test.YtadoaldnjnkhgaaGreatDoorQ19
import Derived.Test.YtadoaldnjnkhgaaGreatDoorQ04
import Derived.Test.YtadoaldnjnkhgaaGreatDoorRows
import Derived.ProofKit
import Derived.LaidMore
import Derived.OpenShut
import Derived.Stop.Joined
import Derived.Stop.LaidErr
import Derived.WalkKit
import Derived.Handy
import Derived.LaidEql
import Derived.Stop.Asserts
import Derived.RowKitTokens
import Derived.Lib.Hide
import Derived.Test.YtadoaldnjnkhgaaGreatDoorQ06
import Derived.Test.YtadoaldnjnkhgaaGreatDoorQ05
import Derived.Test.YtadoaldnjnkhgaaGreatDoorQ09
import Derived.Test.YtadoaldnjnkhgaaGreatDoorQ17
import Derived.Test.YtadoaldnjnkhgaaGreatDoorQ26
import Derived.Deep.RegionHeld3
import Derived.Test.YtadoaldnjnkhgaaGreatDoorQ21
import Derived.Test.YtadoaldnjnkhgaaGreatDoorQ22
import Derived.Test.YtadoaldnjnkhgaaGreatDoorQ23
import Derived.Test.YtadoaldnjnkhgaaGreatDoorQ24
import Derived.Test.YtadoaldnjnkhgaaGreatDoorQ25
set_option linter.unusedVariables false
set_option linter.unusedSimpArgs false
namespace Go.Proofs.YtadoaldnjnkhgaaGreatDoor
open Go.RowKit
set_option maxHeartbeats 4000000
theorem kindLit (n : Int) (l : List UInt8) (s : ByteArray) (h : kindOfB n = l) (hs : bsl l = s) (w : World) : Calls Tryz.prog 44 #[.int .i64 n] w fun e w' => e = .returned (.string s) ∧ Below w.heap.size w w' := by
  have := kindOf_any n w
  rw [h, hs] at this
  exact this
def AddsB (w0 w : World) (lb : Nat) (pc : Int) (n : Nat) (ops : List OpN) (b : Bool) (e : Ending) (w' : World) : Prop := e = .returned (.bool b) ∧ KeptT w w' ∧ ∃ ov', LwW w0 w' lb pc n ov' ops
section
variable {w0 w : World} {lb : Nat} {pc : Int} {n : Nat} {ov : Value} {ops : List OpN}
theorem ins_load (h : LwW w0 w lb pc n ov ops) (op s t d : Nat) (m : Int) (hm0 : 0 ≤ m) (hm1 : m < 65536) (hk : kindOfB (op : Int) = [108, 111, 97, 100]) (os : List OpN)
    (HC : ∀ wx, LwW w0 wx lb pc n ov ops → Calls Tryz.prog 47 #[.pointer (some ⟨lb, 0, none⟩), insA op s t d m, .int .u32 (wideS m)] wx fun e w' => Adds w0 wx lb pc n (ops ++ os) e w') :
    Calls Tryz.prog 20 #[.pointer (some ⟨lb, 0, none⟩), insA op s t d m] w fun e w' => AddsB w0 w lb pc n (ops ++ os) true e w' := by
  have HW := Lib.hid (fun wx => wide16_any m hm0 (by omega) wx)
  have HK := Lib.hid (fun wx => kindLit (op : Int) [108, 111, 97, 100] ⟨#[108, 111, 97, 100]⟩ hk rfl wx)
  have HB := h.box op s t d m
  have HF0 : InsB (boxW w op s t d m) w.heap.size op s t d m := Five.new w _ _ _ _ _ _
  have HC2 := Lib.hid HC
  generalize hq : wideS m = q at *
  clear h hq HC hk
  go_enter Tryz.func20, Tryz.ntmps20
  go_wp2_with fail
  refine (HW.out _).mono ?_
  rintro e w1 ⟨rfl, rfl⟩
  go_wp2_with fail
  refine (HK.out _).mono ?_
  rintro e w2 ⟨rfl, hb⟩
  have HF1 : InsB w2 w.heap.size op s t d m := Five.below HF0 hb (by simp)
  obtain ⟨c0, c1, c2, c3, c4⟩ := Five.cells HF1
  have HD := Lib.hid (HC2.out w2 (HB.trans hb))
  have HBB := Lib.hid hb
  clear hb HF0 HF1
  go_wp2_with fail
  refine HD.out.mono ?_
  rintro e w3 ⟨rfl, hK, ov1, hL⟩
  have HL := Lib.hid hL
  have HK1 := Lib.hid hK
  clear hL hK
  go_wp2
  go_ret
  exact ⟨rfl, boxW.kept ((KeptT.of_below HBB.out).trans HK1.out), ov1, HL.out⟩
theorem ins_sum (h : LwW w0 w lb pc n ov ops) (op s t d : Nat) (m : Int) (hm0 : 0 ≤ m) (hm1 : m < 65536) (hk : kindOfB (op : Int) = [115, 117, 109]) (os : List OpN)
    (HC : ∀ wx, LwW w0 wx lb pc n ov ops → Calls Tryz.prog 49 #[.pointer (some ⟨lb, 0, none⟩), insA op s t d m, .int .u32 (wideS m)] wx fun e w' => Adds w0 wx lb pc n (ops ++ os) e w') :
    Calls Tryz.prog 20 #[.pointer (some ⟨lb, 0, none⟩), insA op s t d m] w fun e w' => AddsB w0 w lb pc n (ops ++ os) true e w' := by
  have HW := Lib.hid (fun wx => wide16_any m hm0 (by omega) wx)
  have HK := Lib.hid (fun wx => kindLit (op : Int) [115, 117, 109] ⟨#[115, 117, 109]⟩ hk rfl wx)
  have HB := h.box op s t d m
  have HF0 : InsB (boxW w op s t d m) w.heap.size op s t d m := Five.new w _ _ _ _ _ _
  have HC2 := Lib.hid HC
  generalize hq : wideS m = q at *
  clear h hq HC hk
  go_enter Tryz.func20, Tryz.ntmps20
  go_wp2_with fail
  refine (HW.out _).mono ?_
  rintro e w1 ⟨rfl, rfl⟩
  go_wp2_with fail
  refine (HK.out _).mono ?_
  rintro e w2 ⟨rfl, hb⟩
  have HF1 : InsB w2 w.heap.size op s t d m := Five.below HF0 hb (by simp)
  obtain ⟨c0, c1, c2, c3, c4⟩ := Five.cells HF1
  have HD := Lib.hid (HC2.out w2 (HB.trans hb))
  have HBB := Lib.hid hb
  clear hb HF0 HF1
  go_wp2_with fail
  refine HD.out.mono ?_
  rintro e w3 ⟨rfl, hK, ov1, hL⟩
  have HL := Lib.hid hL
  have HK1 := Lib.hid hK
  clear hL hK
  go_wp2
  go_ret
  exact ⟨rfl, boxW.kept ((KeptT.of_below HBB.out).trans HK1.out), ov1, HL.out⟩
theorem ins_store (h : LwW w0 w lb pc n ov ops) (hl : ops.length < 900) (op s t d z : Nat) (m : Int) (hm0 : 0 ≤ m) (hm1 : m < 65536) (hk : kindOfB (op : Int) = [115, 116, 111, 114, 101]) (hop : op ∈ [46, 47, 48, 49, 50, 51, 52, 53]) (hz : (sizeT op).1 = z) :
    Calls Tryz.prog 20 #[.pointer (some ⟨lb, 0, none⟩), insA op s t d m] w fun e w' => AddsB w0 w lb pc n (ops ++ [⟨.store, z, s, (t : Int), wideS m, n⟩]) true e w' := by
  have HW := Lib.hid (fun wx => wide16_any m hm0 (by omega) wx)
  have HK := Lib.hid (fun wx => kindLit (op : Int) [115, 116, 111, 114, 101] ⟨#[115, 116, 111, 114, 101]⟩ hk rfl wx)
  have HS : Hid (∀ wx, Calls Tryz.prog 48 #[.int .i64 (op : Int)] wx fun e w' => e = .returned (.tuple #[.int .i64 (z : Int), .bool (sizeT op).2]) ∧ wx = w') := by
    refine Lib.hid ?_
    intro wx
    have := size_any op hop wx
    rw [hz] at this
    exact this
  have HB := h.box op s t d m
  have HF0 : InsB (boxW w op s t d m) w.heap.size op s t d m := Five.new w _ _ _ _ _ _
  have HDO : Hid (∀ wx, LwW w0 wx lb pc n ov ops → Calls Tryz.prog 22 #[.pointer (some ⟨lb, 0, none⟩), .string ⟨#[115, 116, 111, 114, 101]⟩, .int .i64 (z : Int), .int .i64 (s : Int), .int .i64 (t : Int), .int .u32 (wideS m)] wx fun e w' => Adds w0 wx lb pc n (ops ++ [⟨.store, z, s, (t : Int), wideS m, n⟩]) e w') := Lib.hid fun wx hx => do_any hx (by omega) .store z s (t : Int) (wideS m)
  generalize hq : wideS m = q at *
  generalize (sizeT op).2 = sg at *
  clear h hq hk hz hl
  go_enter Tryz.func20, Tryz.ntmps20
  go_wp2_with fail
  refine (HW.out _).mono ?_
  rintro e w1 ⟨rfl, rfl⟩
  go_wp2_with fail
  refine (HK.out _).mono ?_
  rintro e w2 ⟨rfl, hb⟩
  have HF1 : InsB w2 w.heap.size op s t d m := Five.below HF0 hb (by simp)
  obtain ⟨c0, c1, c2, c3, c4⟩ := Five.cells HF1
  have HD := Lib.hid (HDO.out w2 (HB.trans hb))
  have HBB := Lib.hid hb
  clear hb HF0 HF1
  go_wp2_with fail
  refine (HS.out _).mono ?_
  rintro e w4 ⟨rfl, rfl⟩
  go_wp2_with fail
  refine HD.out.mono ?_
  rintro e w3 ⟨rfl, hK, ov1, hL⟩
  have HL := Lib.hid hL
  have HK1 := Lib.hid hK
  clear hL hK
  go_wp2
  go_ret
  exact ⟨rfl, boxW.kept ((KeptT.of_below HBB.out).trans HK1.out), ov1, HL.out⟩
end
end Go.Proofs.YtadoaldnjnkhgaaGreatDoor
namespace Go.Proofs.YtadoaldnjnkhgaaGreatDoor
open Go.ChangeShapes Go.WideShapes Go.ChangeAt Go.RowKit
theorem own : ownKnob Tryz.prog.godebug = none := by kernel_rfl
theorem gErrKind : Tryz.prog.globalNamed "changeling/api.ErrKind" = some 4 := by kernel_rfl
theorem gErrBound : Tryz.prog.globalNamed "changeling/api.ErrBound" = some 3 := by kernel_rfl
theorem cellsES : Tryz.prog.cellsOf 261 = 1 := by kernel_rfl
theorem cellsStr : Tryz.prog.cellsOf 9 = 1 := by kernel_rfl
theorem rowES (u : TypeId) (h : Tryz.prog.typeName? 3 u = some "*errors.errorString") : u = 240 :=
  typeName_ptr_named (nm := "errors.errorString") (by kernel_rfl) (by kernel_rfl) (by decide) u h
end Go.Proofs.YtadoaldnjnkhgaaGreatDoor
namespace Go.Proofs.YtadoaldnjnkhgaaGreatDoor
open Go.RowKit Go.Extern.Stop Go.Stop Go.Extern
theorem valueOfPP (t : Addr) (w : World) : (ReflectliteValue.unpack (.iface 129 (.pointer (some t)))).run Tryz.prog w
    = .ok (.agg #[.pointer (some ⟨12, 129, none⟩), .pointer (some ⟨w.heap.size, 0, none⟩), .int .u64 150]) (w.alloc (.cells #[.pointer (some t)] 129)) := by kernel_rfl
theorem typePP (a : Addr) (w : World) : (ReflectliteValue.methodAny (ReflectliteValue.valueError "reflectlite.Value.Type" 0) (fun t _ _ _ => ReflectliteType.toType t) #[.agg #[.pointer (some ⟨12, 129, none⟩), .pointer (some a), .int .u64 150]]).run Tryz.prog w
    = .ok (.iface 203 (.agg #[.pointer (some ⟨12, 129, none⟩)])) w := by kernel_rfl
theorem kindPP (w : World) : ((ReflectliteType.abiMethod fun t => Functor.map (fun a : Nat => Value.int IntKind.u8 (a : Int)) (Rtype.kind t)) #[.pointer (some ⟨12, 129, none⟩)]).run Tryz.prog w = .ok (.int .u8 22) w := by kernel_rfl
theorem kindP (w : World) : ((ReflectliteType.abiMethod fun t => Functor.map (fun a : Nat => Value.int IntKind.u8 (a : Int)) (Rtype.kind t)) #[.pointer (some ⟨12, 127, none⟩)]).run Tryz.prog w = .ok (.int .u8 22) w := by kernel_rfl
theorem rlm (z : Sem Value) (f : TypeId → Addr → Nat → Nat → Sem Value) (v : Value) :
    ReflectliteValue.method z f #[v] = (do match ← ReflectliteValue.parts v with | none => z | some (t, a, fl) => f t a fl (fl % 32)) := rfl
theorem partsPP (a : Addr) (w : World) : (ReflectliteValue.parts (.agg #[.pointer (some ⟨12, 129, none⟩), .pointer (some a), .int .u64 150])).run Tryz.prog w = .ok (some (129, a, 150)) w := by kernel_rfl
theorem isNilPP (a p : Addr) (W : World) (ha : W.cell? a = some (.pointer (some p))) :
    (ReflectliteValue.method (ReflectliteValue.valueError "reflectlite.Value.IsNil" 0) ReflectliteValue.isNil #[.agg #[.pointer (some ⟨12, 129, none⟩), .pointer (some a), .int .u64 150]]).run Tryz.prog W = .ok (.bool false) W := by
  rw [rlm]
  simp only [Sem.run_bind, partsPP, Result.andThen]
  simp [ReflectliteValue.isNil, loadVar, isAgg, underlying, Tryz.underlying129, ha, Result.andThen]
theorem elemPP (w : World) : (ReflectliteType.method ReflectliteType.elem #[.agg #[.pointer (some ⟨12, 129, none⟩)]]).run Tryz.prog w = .ok (.iface 203 (.agg #[.pointer (some ⟨12, 127, none⟩)])) w := by kernel_rfl
theorem implementsP (w : World) : (ReflectliteType.relation "Implements" ReflectliteType.implements_ #[.agg #[.pointer (some ⟨12, 127, none⟩)], .iface 203 (.agg #[.pointer (some ⟨12, 36, none⟩)])]).run Tryz.prog w = .ok (.bool true) w := by kernel_rfl
theorem typeOfE (v : Value) (w : World) : (ReflectliteType.typeOf #[.iface 240 v]).run Tryz.prog w = .ok (.iface 203 (.agg #[.pointer (some ⟨12, 240, none⟩)])) w := by kernel_rfl
theorem assignE (w : World) : (ReflectliteType.relation "AssignableTo" ReflectliteType.assignableTo #[.agg #[.pointer (some ⟨12, 240, none⟩)], .iface 203 (.agg #[.pointer (some ⟨12, 127, none⟩)])]).run Tryz.prog w = .ok (.bool false) w := by kernel_rfl
set_option maxHeartbeats 2000000 in
theorem noAs (a : Addr) (w : World) : (Instr.typeAssert (.iface 240 (.pointer (some a))) 36 207 true).run Tryz.prog w = .ok (.tuple #[.nilIface, .bool false]) w := run_typeAssert_lacksB Tryz.underlying207 (by kernel_rfl) (by kernel_rfl) (.pointer (some a)) 36 w
theorem noUnwrap (a : Addr) (w : World) : (Instr.typeAssert (.iface 240 (.pointer (some a))) 36 210 true).run Tryz.prog w = .ok (.tuple #[.nilIface, .bool false]) w := run_typeAssert_lacksB Tryz.underlying210 (by kernel_rfl) (by kernel_rfl) (.pointer (some a)) 36 w
theorem noUnwraps (a : Addr) (w : World) : (Instr.typeAssert (.iface 240 (.pointer (some a))) 36 212 true).run Tryz.prog w = .ok (.tuple #[.nilIface, .bool false]) w := run_typeAssert_lacksB Tryz.underlying212 (by kernel_rfl) (by kernel_rfl) (.pointer (some a)) 36 w
theorem noIs (a : Addr) (w : World) : (Instr.typeAssert (.iface 240 (.pointer (some a))) 36 214 true).run Tryz.prog w = .ok (.tuple #[.nilIface, .bool false]) w := run_typeAssert_lacksB Tryz.underlying214 (by kernel_rfl) (by kernel_rfl) (.pointer (some a)) 36 w
set_option maxRecDepth 100000 in
theorem as_miss (a t : Addr) (w : World) (hg : w.cell? ⟨10, 0, none⟩ = some (.iface 203 (.agg #[.pointer (some ⟨12, 36, none⟩)]))) :
    Calls Tryz.prog 53 #[.iface 240 (.pointer (some a)), .iface 129 (.pointer (some t))] w fun ev w' => ev = .returned (.bool false) ∧ Below w.heap.size w w' := by
  have hVal := @run_callFunc_extern Tryz.prog 85 _ (fun args => ReflectliteValue.unpack (args.getD 0 (.tuple #[]))) Tryz.func85 (by kernel_rfl) (by kernel_rfl) (by kernel_rfl) (by kernel_rfl)
  have hTy := @run_callFunc_extern Tryz.prog 86 _ (ReflectliteValue.methodAny (ReflectliteValue.valueError "reflectlite.Value.Type" 0) (fun t _ _ _ => ReflectliteType.toType t)) Tryz.func86 (by kernel_rfl) (by kernel_rfl) (by kernel_rfl) (by kernel_rfl)
  have hNil := @run_callFunc_extern Tryz.prog 87 _ (ReflectliteValue.method (ReflectliteValue.valueError "reflectlite.Value.IsNil" 0) ReflectliteValue.isNil) Tryz.func87 (by kernel_rfl) (by kernel_rfl) (by kernel_rfl) (by kernel_rfl)
  have hKind := @run_callFunc_extern Tryz.prog 174 _ (ReflectliteType.abiMethod fun t => do pure (.int .u8 (← Rtype.kind t))) Tryz.func174 (by kernel_rfl) (by kernel_rfl) (by kernel_rfl) (by kernel_rfl)
  have hElem := @run_callFunc_extern Tryz.prog 185 _ (ReflectliteType.method ReflectliteType.elem) Tryz.func185 (by kernel_rfl) (by kernel_rfl) (by kernel_rfl) (by kernel_rfl)
  have hImp := @run_callFunc_extern Tryz.prog 186 _ (ReflectliteType.relation "Implements" ReflectliteType.implements_) Tryz.func186 (by kernel_rfl) (by kernel_rfl) (by kernel_rfl) (by kernel_rfl)
  have hTypeOf := @run_callFunc_extern Tryz.prog 89 _ (ReflectliteType.typeOf) Tryz.func89 (by kernel_rfl) (by kernel_rfl) (by kernel_rfl) (by kernel_rfl)
  have hAss := @run_callFunc_extern Tryz.prog 183 _ (ReflectliteType.relation "AssignableTo" ReflectliteType.assignableTo) Tryz.func183 (by kernel_rfl) (by kernel_rfl) (by kernel_rfl) (by kernel_rfl)
  have fPP := valueOfPP
  have tPP := typePP
  have kPP := kindPP
  have kP := kindP
  have ePP := elemPP
  have iP := implementsP
  have oE := typeOfE
  have aE := assignE
  have nA := noAs
  have nU := noUnwrap
  have nUs := noUnwraps
  have hlt := World.block_lt_of_cell? w _ hg
  have n8 := isNilPP ⟨w.heap.size, 0, none⟩ t ((w.alloc (.cells #[.pointer (some t)] 129)).alloc (.cells #[.pointer (some ⟨12, 129, none⟩), .pointer (some ⟨w.heap.size, 0, none⟩), .int .u64 150] 170)) (by simp)
  have hg2 : ((w.alloc (.cells #[.pointer (some t)] 129)).alloc (.cells #[.pointer (some ⟨12, 129, none⟩), .pointer (some ⟨w.heap.size, 0, none⟩), .int .u64 150] 170)).cell? ⟨10, 0, none⟩ = some (.iface 203 (.agg #[.pointer (some ⟨12, 36, none⟩)])) := by
    rw [World.cell?_alloc_lt _ _ ⟨10, 0, none⟩ (by simp; exact Nat.lt_succ_of_lt hlt), World.cell?_alloc_lt _ _ ⟨10, 0, none⟩ hlt]; exact hg
  go_enter Tryz.func53, Tryz.ntmps53
  go_wp2
  refine wp_loop_rounds 1 ?_
  rw [rounds_succ]
  go_wp2
  go_ret
  exact ⟨rfl, by go_grown⟩
end Go.Proofs.YtadoaldnjnkhgaaGreatDoor
namespace Go.Proofs.YtadoaldnjnkhgaaGreatDoor
open Go.RowKit Go.Extern.Stop Go.Stop Go.Extern
theorem infoE : ∃ i, Tryz.prog.info? 240 = some i ∧ i.comparable = true := by
  have h : (Tryz.prog.info? 240).map (·.comparable) = some true := by kernel_rfl
  obtain ⟨i, h1, h2⟩ := Option.map_eq_some_iff.1 h
  exact ⟨i, h1, h2⟩
theorem infoES : ∃ i, Tryz.prog.info? 261 = some i ∧ i.size ≠ 0 := by
  have h : (Tryz.prog.info? 261).map (fun i => i.size == 0) = some false := by kernel_rfl
  obtain ⟨i, h1, h2⟩ := Option.map_eq_some_iff.1 h
  exact ⟨i, h1, by simpa using h2⟩
theorem eql_same (a : Addr) (w : World) : (binOp .eql 36 (.iface 240 (.pointer (some a))) (.iface 240 (.pointer (some a)))).run Tryz.prog w = .ok (.bool true) w := by
  obtain ⟨i, hi, hc⟩ := infoE
  obtain ⟨j, hj, _⟩ := infoES
  exact run_eql_iface_ptr_same w a Tryz.underlying36 Tryz.underlying240 hi hc hj
theorem eql_other {a b : Addr} {ca cb : Array Value} {ta tb : TypeId} (w : World) (hne : a ≠ b) (ha : w.heap[a.block]? = some (.cells ca ta (0, 0))) (hb : w.heap[b.block]? = some (.cells cb tb (0, 0))) :
    (binOp .eql 36 (.iface 240 (.pointer (some a))) (.iface 240 (.pointer (some b)))).run Tryz.prog w = .ok (.bool false) w := by
  obtain ⟨i, hi, hc⟩ := infoE
  obtain ⟨j, hj, hs⟩ := infoES
  exact run_eql_iface_ptr_other w Tryz.underlying36 Tryz.underlying240 hi hc hj hs hne ha hb
theorem compE (w : World) : (ReflectliteType.method (fun t => do Rtype.noPackHeld "Comparable" t; Functor.map (fun a : TypeInfo => Value.bool a.comparable) (typeInfo t)) #[.agg #[.pointer (some ⟨12, 240, none⟩)]]).run Tryz.prog w = .ok (.bool true) w := by kernel_rfl
set_option maxRecDepth 100000 in
theorem is_same (a : Addr) (w : World) :
    Calls Tryz.prog 54 #[.iface 240 (.pointer (some a)), .iface 240 (.pointer (some a))] w fun ev w' => ev = .returned (.bool true) ∧ w = w' := by
  have he := eql_same a
  have oE := typeOfE
  have hTypeOf := @run_callFunc_extern Tryz.prog 89 _ (ReflectliteType.typeOf) Tryz.func89 (by kernel_rfl) (by kernel_rfl) (by kernel_rfl) (by kernel_rfl)
  have hComp := @run_callFunc_extern Tryz.prog 184 _ (ReflectliteType.method (fun t => do Rtype.noPackHeld "Comparable" t; pure (.bool (← typeInfo t).comparable))) Tryz.func184 (by kernel_rfl) (by kernel_rfl) (by kernel_rfl) (by kernel_rfl)
  have cE := compE
  have nI := noIs
  have nU := noUnwrap
  have nUs := noUnwraps
  go_enter Tryz.func54, Tryz.ntmps54
  go_wp2
  refine wp_loop_rounds 1 ?_
  rw [rounds_succ]
  go_wp2
  go_ret
  exact ⟨rfl, rfl⟩
set_option maxRecDepth 100000 in
theorem is_other (a b : Addr) (ca cb : Array Value) (ta tb : TypeId) (w : World) (hne : a ≠ b) (ha : w.heap[a.block]? = some (.cells ca ta (0, 0))) (hb : w.heap[b.block]? = some (.cells cb tb (0, 0))) :
    Calls Tryz.prog 54 #[.iface 240 (.pointer (some a)), .iface 240 (.pointer (some b))] w fun ev w' => ev = .returned (.bool false) ∧ w = w' := by
  have he := eql_other w hne ha hb
  clear hne ha hb
  have oE := typeOfE
  have hTypeOf := @run_callFunc_extern Tryz.prog 89 _ (ReflectliteType.typeOf) Tryz.func89 (by kernel_rfl) (by kernel_rfl) (by kernel_rfl) (by kernel_rfl)
  have hComp := @run_callFunc_extern Tryz.prog 184 _ (ReflectliteType.method (fun t => do Rtype.noPackHeld "Comparable" t; pure (.bool (← typeInfo t).comparable))) Tryz.func184 (by kernel_rfl) (by kernel_rfl) (by kernel_rfl) (by kernel_rfl)
  have cE := compE
  have nI := noIs
  have nU := noUnwrap
  have nUs := noUnwraps
  go_enter Tryz.func54, Tryz.ntmps54
  go_wp2
  refine wp_loop_rounds 1 ?_
  rw [rounds_succ]
  go_wp2
  go_ret
  exact ⟨rfl, rfl⟩
structure Sents (w : World) (ad : Nat → Addr) : Prop where
  c0 : w.cell? ⟨5, 0, none⟩ = some (.iface 240 (.pointer (some (ad 0))))
  c1 : w.cell? ⟨3, 0, none⟩ = some (.iface 240 (.pointer (some (ad 1))))
  c2 : w.cell? ⟨0, 0, none⟩ = some (.iface 240 (.pointer (some (ad 2))))
  c3 : w.cell? ⟨4, 0, none⟩ = some (.iface 240 (.pointer (some (ad 3))))
  c4 : w.cell? ⟨6, 0, none⟩ = some (.iface 240 (.pointer (some (ad 4))))
  c5 : w.cell? ⟨2, 0, none⟩ = some (.iface 240 (.pointer (some (ad 5))))
  c6 : w.cell? ⟨7, 0, none⟩ = some (.iface 240 (.pointer (some (ad 6))))
  c7 : w.cell? ⟨8, 0, none⟩ = some (.iface 240 (.pointer (some (ad 7))))
  c8 : w.cell? ⟨1, 0, none⟩ = some (.iface 240 (.pointer (some (ad 8))))
  c9 : w.cell? ⟨9, 0, none⟩ = some (.iface 240 (.pointer (some (ad 9))))
  rows : ∀ k : Nat, k < 10 → ∃ ca ta, w.heap[(ad k).block]? = some (.cells ca ta (0, 0))
  apart : ∀ i j : Nat, i < 10 → j < 10 → i ≠ j → ad i ≠ ad j
  et : w.cell? ⟨10, 0, none⟩ = some (.iface 203 (.agg #[.pointer (some ⟨12, 36, none⟩)]))
theorem Sents.below {w w' : World} {ad : Nat → Addr} (h : Sents w ad) (hb : Below w.heap.size w w') : Sents w' ad where
  c0 := (hb.cell (World.block_lt_of_cell? w _ h.c0)).trans h.c0
  c1 := (hb.cell (World.block_lt_of_cell? w _ h.c1)).trans h.c1
  c2 := (hb.cell (World.block_lt_of_cell? w _ h.c2)).trans h.c2
  c3 := (hb.cell (World.block_lt_of_cell? w _ h.c3)).trans h.c3
  c4 := (hb.cell (World.block_lt_of_cell? w _ h.c4)).trans h.c4
  c5 := (hb.cell (World.block_lt_of_cell? w _ h.c5)).trans h.c5
  c6 := (hb.cell (World.block_lt_of_cell? w _ h.c6)).trans h.c6
  c7 := (hb.cell (World.block_lt_of_cell? w _ h.c7)).trans h.c7
  c8 := (hb.cell (World.block_lt_of_cell? w _ h.c8)).trans h.c8
  c9 := (hb.cell (World.block_lt_of_cell? w _ h.c9)).trans h.c9
  rows := fun k hk => by
    obtain ⟨ca, ta, e⟩ := h.rows k hk
    exact ⟨ca, ta, (hb.block _ (Array.getElem?_eq_some_iff.1 e).1).trans e⟩
  apart := h.apart
  et := (hb.cell (World.block_lt_of_cell? w _ h.et)).trans h.et
theorem ten_cells (w : World) (ad : Nat → Addr) : ∀ i : Nat, i < 10 → (w.alloc (.cells #[.iface 240 (.pointer (some (ad 0))), .iface 240 (.pointer (some (ad 1))), .iface 240 (.pointer (some (ad 2))), .iface 240 (.pointer (some (ad 3))), .iface 240 (.pointer (some (ad 4))), .iface 240 (.pointer (some (ad 5))), .iface 240 (.pointer (some (ad 6))), .iface 240 (.pointer (some (ad 7))), .iface 240 (.pointer (some (ad 8))), .iface 240 (.pointer (some (ad 9)))] 36)).cell? ⟨w.heap.size, i, none⟩ = some (.iface 240 (.pointer (some (ad i)))) := by
  intro i hi
  have hc : i = 0 ∨ i = 1 ∨ i = 2 ∨ i = 3 ∨ i = 4 ∨ i = 5 ∨ i = 6 ∨ i = 7 ∨ i = 8 ∨ i = 9 := by omega
  rcases hc with rfl | rfl | rfl | rfl | rfl | rfl | rfl | rfl | rfl | rfl <;> simp [go_sem]
set_option maxHeartbeats 1000000 in
theorem code_sent (k : Nat) (hk : k < 10) (ad : Nat → Addr) (w : World) (hS : Sents w ad) :
    Calls Tryz.prog 25 #[.iface 240 (.pointer (some (ad k)))] w fun ev w' => ev = .returned (.tuple #[.int .i64 ((k : Int) + 1), .int .i64 (-1)]) ∧ Below w.heap.size w w' := by
  go_enter Tryz.func25, Tryz.ntmps25
  go_wp2_with fail
  have hA := hS.below ((Below.refl _ _).alloc (Nat.le_refl _) (.cells #[.pointer none] 127))
  refine (as_miss _ _ _ hA.et).mono ?_
  rintro e w1 ⟨rfl, hb1⟩
  have hS1 := hA.below hb1
  have hB1 : Below w.heap.size w w1 := ((Below.refl _ _).alloc (Nat.le_refl _) _).trans (hb1.mono (by simp))
  clear hA hS hb1
  have hS1' := hS1
  obtain ⟨c0, c1, c2, c3, c4, c5, c6, c7, c8, c9, _, _, _⟩ := hS1'
  go_wp2_with fail
  have hS2 := hS1.below ((Below.refl _ _).alloc (Nat.le_refl _) (.cells #[.iface 240 (.pointer (some (ad 0))), .iface 240 (.pointer (some (ad 1))), .iface 240 (.pointer (some (ad 2))), .iface 240 (.pointer (some (ad 3))), .iface 240 (.pointer (some (ad 4))), .iface 240 (.pointer (some (ad 5))), .iface 240 (.pointer (some (ad 6))), .iface 240 (.pointer (some (ad 7))), .iface 240 (.pointer (some (ad 8))), .iface 240 (.pointer (some (ad 9)))] 36))
  have hB2 : Below w.heap.size w (w1.alloc (.cells #[.iface 240 (.pointer (some (ad 0))), .iface 240 (.pointer (some (ad 1))), .iface 240 (.pointer (some (ad 2))), .iface 240 (.pointer (some (ad 3))), .iface 240 (.pointer (some (ad 4))), .iface 240 (.pointer (some (ad 5))), .iface 240 (.pointer (some (ad 6))), .iface 240 (.pointer (some (ad 7))), .iface 240 (.pointer (some (ad 8))), .iface 240 (.pointer (some (ad 9)))] 36)) := hB1.alloc hB1.size _
  have hcell := ten_cells w1 ad
  generalize (w1.alloc (.cells #[.iface 240 (.pointer (some (ad 0))), .iface 240 (.pointer (some (ad 1))), .iface 240 (.pointer (some (ad 2))), .iface 240 (.pointer (some (ad 3))), .iface 240 (.pointer (some (ad 4))), .iface 240 (.pointer (some (ad 5))), .iface 240 (.pointer (some (ad 6))), .iface 240 (.pointer (some (ad 7))), .iface 240 (.pointer (some (ad 8))), .iface 240 (.pointer (some (ad 9)))] 36)) = w2 at *
  generalize w1.heap.size = bs at *
  have HC := Lib.hid hcell
  clear hcell c0 c1 c2 c3 c4 c5 c6 c7 c8 c9 hS1 hB1
  go_loop [3, 28] (fun at3 v => ∃ i : Nat, i ≤ k ∧ v = .int .i64 (i : Int) ∧ at3 = .int .i64 (-1)) (fun _ v => k - (intOf v).toNat)
  case atStart => exact ⟨0, Nat.zero_le _, rfl, rfl⟩
  case round =>
    obtain ⟨i, hi, rfl, rfl⟩ := hrel
    have hci := HC.out i (by omega)
    have hi10 : (i : Int) < 10 := by omega
    by_cases hik : i = k
    · subst hik
      go_wp2_with (go_at_call 54; refine (is_same (ad i) _).mono ?_; rintro e w' ⟨rfl, rfl⟩)
      go_ret2
      exact ⟨rfl, hB2⟩
    · obtain ⟨ca, ta, hra⟩ := hS2.rows k hk
      obtain ⟨cb, tb, hrb⟩ := hS2.rows i (by omega)
      have hne : ad k ≠ ad i := hS2.apart k i hk (by omega) (fun e => hik e.symm)
      have HNE := Lib.hid hne
      have HRA := Lib.hid hra
      have HRB := Lib.hid hrb
      clear hne hra hrb
      go_wp2_with (go_at_call 54; refine (is_other (ad k) (ad i) ca cb ta tb _ HNE.out HRA.out HRB.out).mono ?_; rintro e w' ⟨rfl, rfl⟩)
      go_round
      case rel => exact ⟨i + 1, by omega, by go_num, rfl⟩
      case measure => simp [intOf]; omega
end Go.Proofs.YtadoaldnjnkhgaaGreatDoor
namespace Go.Proofs.YtadoaldnjnkhgaaGreatDoor
open Go.RowKit
theorem name_full (k : Nat) (h1 : 1 ≤ k) (h2 : k < 54) : (nameS (k : Int)).toList.isEmpty = false := by
  have all : ∀ k : Nat, k < 54 → (1 ≤ k → (nameS (k : Int)).toList.isEmpty = false) := by decide +kernel
  exact all k h2 h1
theorem name_none (n : Int) (h : n ≤ 0 ∨ 54 ≤ n) : (nameS n).toList.isEmpty = true := by
  have e : nameS n = ⟨#[]⟩ := by
    unfold nameS
    rcases h with h | h
    · rw [show n.toNat = 0 from by omega]; rfl
    · rw [nameB_big _ (by omega)]; rfl
  rw [e]
  decide +kernel
end Go.Proofs.YtadoaldnjnkhgaaGreatDoor
namespace Go.Proofs.YtadoaldnjnkhgaaGreatDoor
open Go.RowKit
structure InsAt (w : World) (g o : Nat) (L : List InsN) : Prop where
  row : ∀ j (h : j < L.length), w.cell? ⟨g, o + j * 5, none⟩ = some (.int .i64 L[j].op) ∧ w.cell? ⟨g, o + j * 5 + 1, none⟩ = some (.int .i64 L[j].s) ∧ w.cell? ⟨g, o + j * 5 + 2, none⟩ = some (.int .i64 L[j].t) ∧ w.cell? ⟨g, o + j * 5 + 3, none⟩ = some (.int .i64 L[j].d) ∧ w.cell? ⟨g, o + j * 5 + 4, none⟩ = some (.int .u32 L[j].imm)
theorem InsAt.of_block {w w' : World} {g o : Nat} {L : List InsN} (h : InsAt w g o L) (e : w'.heap[g]? = w.heap[g]?) : InsAt w' g o L where
  row j hj := by
    obtain ⟨c0, c1, c2, c3, c4⟩ := h.row j hj
    exact ⟨(World.cell?_of_block (a := ⟨g, _, none⟩) e).trans c0, (World.cell?_of_block (a := ⟨g, _, none⟩) e).trans c1, (World.cell?_of_block (a := ⟨g, _, none⟩) e).trans c2, (World.cell?_of_block (a := ⟨g, _, none⟩) e).trans c3, (World.cell?_of_block (a := ⟨g, _, none⟩) e).trans c4⟩
theorem InsAt.below {w w' : World} {g o : Nat} {L : List InsN} (h : InsAt w g o L) (hb : Below w.heap.size w w') (hl : 0 < L.length) : InsAt w' g o L := h.of_block (hb.block g (World.block_lt_of_cell? _ _ (h.row 0 hl).1))
abbrev errI (a : Addr) : Value := .iface 240 (.pointer (some a))
theorem low_op {i : InsN} (h : ¬ (i.op < 1 ∨ 54 ≤ i.op)) : ∃ m : Nat, i.op = (m : Int) ∧ 1 ≤ m ∧ m < 54 := ⟨i.op.toNat, by omega, by omega, by omega⟩
theorem enc_yes (i : InsN) (hi : i.Fits) (h : insErr i = false) (ad : Nat → Addr) (w : World) (hS : Sents w ad) : Calls Tryz.prog 43 #[insV i] w fun e w' => e = .returned (.tuple #[.int .u32 (encL i (fieldsB i.op.toNat)), .nilIface]) ∧ Below w.heap.size w w' := by
  unfold insErr at h
  simp only [Bool.or_eq_false_iff, decide_eq_false_iff_not] at h
  obtain ⟨m, hm, m1, m2⟩ := low_op h.1
  have hn : (nameS i.op).toList.isEmpty = false := by rw [hm]; exact name_full m m1 m2
  exact (encode_some i hi hn _ _ w hS.c3 hS.c1).mono fun en w' x => ⟨by rw [x.1, encRes_good h.2], x.2⟩
theorem enc_no (i : InsN) (hi : i.Fits) (h : insErr i = true) (ad : Nat → Addr) : ∃ k, ∀ w, Sents w ad → Calls Tryz.prog 43 #[insV i] w fun e w' => e = .returned (.tuple #[.int .u32 0, errI (ad k)]) ∧ Below w.heap.size w w' := by
  by_cases hlow : i.op < 1 ∨ 54 ≤ i.op
  · exact ⟨3, fun w hS => encode_none i (name_none i.op (by omega)) _ _ w hS.c3 hS.c1⟩
  · unfold insErr at h
    rw [decide_eq_false hlow, Bool.false_or] at h
    obtain ⟨m, hm, m1, m2⟩ := low_op hlow
    have hn : (nameS i.op).toList.isEmpty = false := by rw [hm]; exact name_full m m1 m2
    exact ⟨1, fun w hS => (encode_some i hi hn _ _ w hS.c3 hS.c1).mono fun en w' x => ⟨by rw [x.1, encRes_bad h], x.2⟩⟩
theorem encOf_err (i : InsN) (hi : i.Fits) : ∃ (v c : Int), (insErr i = false → c = 0) ∧ (insErr i = true → 0 < c) ∧ ∀ w, Calls Tryz.prog 23 #[insV i] w fun e w' => e = .returned (.tuple #[.int .u32 v, .int .i64 c]) ∧ Below w.heap.size w w' := by
  by_cases hlow : i.op < 1 ∨ 54 ≤ i.op
  · exact ⟨0, 4, (fun h => by unfold insErr at h; rw [decide_eq_true hlow] at h; cases h), (fun _ => by decide), fun w => encof_kind i.op (by omega) _ _ _ _ w⟩
  · obtain ⟨m, hm, m1, m2⟩ := low_op hlow
    cases hb : encBad i
    · refine ⟨encL i (fieldsB i.op.toNat), 0, fun _ => rfl, (fun h => ?_), fun w => ?_⟩
      · unfold insErr at h
        rw [decide_eq_false hlow, hb] at h
        cases h
      · obtain ⟨op, s, t, d, im⟩ := i
        simp only at hm
        subst hm
        exact encOf_good (m : Int) s t d im m m1 m2 rfl hi.m0 hb w
    · refine ⟨0, 2, (fun h => ?_), (fun _ => by decide), fun w => ?_⟩
      · unfold insErr at h
        rw [hb, Bool.or_true] at h
        cases h
      · obtain ⟨op, s, t, d, im⟩ := i
        simp only at hm
        exact encOf_bad op s t d im m m1 m2 hm hi.m0 hi.m1 hb w
theorem kindOfR (op : Int) (w : World) : Calls Tryz.prog 24 #[.int .i64 op] w fun e w' => e = .returned (.string (bsl (kindOfB op))) ∧ Below w.heap.size w w' := by
  by_cases h0 : op = 0
  · subst h0; exact kindOf_zero w
  · unfold kindOfB
    rw [if_neg h0]
    by_cases h : 1 ≤ op ∧ op < 54
    · obtain ⟨k, rfl⟩ := Int.eq_ofNat_of_zero_le (a := op) (by omega)
      exact kindOf_at k (by omega) (by omega) w
    · have hf : bsl (kindB op.toNat) = ⟨#[]⟩ := by
        by_cases h1 : op.toNat = 0
        · rw [h1]; rfl
        · rw [kindB_big op.toNat (by omega)]; rfl
      rw [hf]
      exact kindOf_none op (by omega) w
theorem bsl_toList' (l : List UInt8) : (bsl l).toList = l := by
  simp [bsl]
theorem storesN_take (l : List InsN) (j : Nat) (h : j < l.length) : storesN (l.take (j + 1)) = storesN (l.take j) + (if kindOfB l[j].op = storeB then 1 else 0) := by
  rw [List.take_add_one, storesN_app, List.getElem?_eq_getElem h]
  congr 1
  unfold storesN
  by_cases e : kindOfB l[j].op = storeB
  · rw [if_pos e]; simp [e]
  · rw [if_neg e]; simp [e]
theorem storesN_le (l : List InsN) : storesN l ≤ l.length := List.length_filter_le _ _
theorem regErr_ok {l : List InsN} (h0 : l ≠ []) (h1 : l.length ≤ 24) (ha : ∀ j (h : j < l.length), okAt l.length j l[j] = true) : regErr l = if storesN l ≤ 8 then 0 else 4 := by
  have : allOk l.length l 0 = true := (allOk_at _ _ _).2 (fun j hj => by rw [Nat.zero_add]; exact ha j hj)
  unfold regErr
  rw [if_neg h0, if_neg (by omega)]
  by_cases e : storesN l ≤ 8
  · rw [if_pos e, if_pos ⟨this, e⟩]
  · rw [if_neg e, if_neg (fun x => e x.2)]
theorem regErr_bad {l : List InsN} (h0 : l ≠ []) (h1 : l.length ≤ 24) {j : Nat} (h : j < l.length) (hb : okAt l.length j l[j] = false) : regErr l = 4 := by
  unfold regErr
  rw [if_neg h0, if_neg (by omega), if_neg]
  rintro ⟨ha, _⟩
  have := (allOk_at _ _ _).1 ha j h
  rw [Nat.zero_add, hb] at this
  cases this
set_option maxHeartbeats 4000000 in
theorem regionError_any {w : World} {g o cap : Nat} {l : List InsN} (hl : l.length ≤ 30) (h : InsAt w g o l) (hf : ∀ i ∈ l, i.Fits) :
    Calls Tryz.prog 7 #[.slice (some ⟨g, o, none⟩) l.length cap] w fun e w' => e = .returned (.int .i64 (regErr l : Int)) ∧ Below w.heap.size w w' := by
  have HI := Lib.hid h
  have HF := Lib.hid hf
  have l30 : (l.length : Int) ≤ 30 := by omega
  clear h hf
  by_cases hn : l = []
  · subst hn
    go_enter Tryz.func7, Tryz.ntmps7
    go_wp2
    go_ret
    exact ⟨rfl, Below.refl _ _⟩
  · have hlen : 0 < l.length := List.length_pos_iff.2 hn
    have HN := Lib.hid hn
    have l0 : ((l.length : Int) == 0) = false := by simp only [beq_eq_false_iff_ne, ne_eq]; omega
    clear hn
    by_cases hb : 24 < l.length
    · have HV : Hid (regErr l = 2) := by
        refine Lib.hid ?_
        unfold regErr
        rw [if_neg HN.out, if_pos hb]
      have l24 : (24 : Int) < (l.length : Int) := by omega
      go_enter Tryz.func7, Tryz.ntmps7
      go_wp2
      go_ret
      exact ⟨by rw [HV.out]; rfl, Below.refl _ _⟩
    · have l24 : (l.length : Int) ≤ 24 := by omega
      have HB24 : Hid (l.length ≤ 24) := Lib.hid (by omega)
      have HL0 := Lib.hid hlen
      clear hb hlen hl
      go_enter Tryz.func7, Tryz.ntmps7
      go_wp2_with fail
      go_loopw [2, 3, 4] (fun rr st i wr => ∃ j : Nat, j ≤ l.length ∧ rr = .int .i64 0 ∧ st = .int .i64 (storesN (l.take j) : Int) ∧ i = .int .i64 (j : Int) ∧ Hid (Below w.heap.size w wr) ∧ Hid (∀ k (h : k < l.length), k < j → okAt l.length k l[k] = true)) (fun _ _ i _ => l.length - (intOf i).toNat)
      case atStart => exact ⟨0, Nat.zero_le _, rfl, rfl, rfl, Lib.hid (Below.refl _ _), Lib.hid (fun k _ hk => absurd hk (Nat.not_lt_zero k))⟩
      case round =>
        obtain ⟨j, hj, rfl, rfl, rfl, HB, HA⟩ := hrel
        have hs0 : (0 : Int) ≤ (storesN (l.take j) : Int) := by omega
        have hs1 : (storesN (l.take j) : Int) ≤ 24 := by
          have h1 := storesN_le (l.take j)
          rw [List.length_take] at h1
          have := HB24.out
          omega
        by_cases hlt : j < l.length
        · have hjI : (j : Int) < (l.length : Int) := by omega
          have HIj := Lib.hid (HI.out.below HB.out HL0.out)
          obtain ⟨c0, c1, c2, c3, c4⟩ := HIj.out.row j hlt
          obtain ⟨v, c, hc0, hc1, hE⟩ := encOf_err l[j] (HF.out _ (List.getElem_mem hlt))
          have HE := Lib.hid hE
          have HK := Lib.hid (fun wx => kindOfR l[j].op wx)
          have HT := Lib.hid (storesN_take l j hlt)
          have HJ := Lib.hid hlt
          have HBAD : Hid (okAt l.length j l[j] = false → regErr l = 4) := Lib.hid (regErr_bad HN.out HB24.out hlt)
          have HOKJ : Hid (okAt l.length j l[j] = true → ∀ k (h : k < l.length), k < j + 1 → okAt l.length k l[k] = true) := by
            refine Lib.hid ?_
            intro ho k hk hkj
            by_cases e : k = j
            · subst e; exact ho
            · exact HA.out k hk (by omega)
          have HGL : Hid (g < w.heap.size) := Lib.hid (World.block_lt_of_cell? _ _ (HI.out.row 0 HL0.out).1)
          generalize l[j]'hlt = x at *
          obtain ⟨op, s, t, d, m⟩ := x
          simp only at c0 c1 c2 c3 c4 HK HT
          obtain ⟨S0, hS0⟩ : ∃ S0, storesN (l.take j) = S0 := ⟨_, rfl⟩
          rw [hS0] at HT hs0 hs1 ⊢
          clear hE hS0
          go_wp2_with fail
          (with_reducible refine (HE.out _).mono ?_)
          rintro e w1 ⟨rfl, hb1⟩
          have c0' : w1.cell? ⟨g, o + j * 5, none⟩ = some (.int .i64 op) := (hb1.cell (World.block_lt_of_cell? _ _ c0)).trans c0
          have HB1 := Lib.hid (HB.out.trans (hb1.mono HB.out.size))
          clear c0 c1 c2 c3 c4 hb1
          go_wp2_with fail
          (with_reducible refine (HK.out _).mono ?_)
          rintro e w2 ⟨rfl, hb2⟩
          have HB2 := Lib.hid (HB1.out.trans (hb2.mono HB1.out.size))
          clear c0' hb2
          have hkl : (bsl (kindOfB op)).toList = kindOfB op := bsl_toList' _
          generalize bsl (kindOfB op) = kt at *
          have HKL := Lib.hid hkl
          clear hkl
          cases hie : insErr ⟨op, s, t, d, m⟩ with
          | true =>
            have hcp := hc1 hie
            have hbad : okAt l.length j ⟨op, s, t, d, m⟩ = false := by
              unfold okAt
              rw [hie]; rfl
            have HR4 : Hid (regErr l = 4) := Lib.hid (HBAD.out hbad)
            clear hbad
            clear hie hc0 hc1
            go_wp2
            go_ret
            exact ⟨by rw [HR4.out]; rfl, HB2.out⟩
          | false =>
            have hcz := hc0 hie
            subst hcz
            by_cases hkt : kindOfB op = trapB
            · have ft : (kt.toList == [116, 114, 97, 112]) = true := by rw [HKL.out, hkt]; rfl
              have hbad : okAt l.length j ⟨op, s, t, d, m⟩ = false := by
                unfold okAt
                rw [hie]; simp [hkt]
              have HR4 : Hid (regErr l = 4) := Lib.hid (HBAD.out hbad)
              clear hbad
              clear hie hc0 hc1 hkt
              go_wp2
              go_ret
              exact ⟨by rw [HR4.out]; rfl, HB2.out⟩
            · have ft : (kt.toList == [116, 114, 97, 112]) = false := by rw [HKL.out]; exact beq_eq_false_iff_ne.2 hkt
              by_cases hkb : kindOfB op = branchB
              · have fb : (kt.toList == [98, 114, 97, 110, 99, 104]) = true := by rw [HKL.out, hkb]; rfl
                have fs : (kt.toList == [115, 116, 111, 114, 101]) = false := by rw [HKL.out, hkb]; rfl
                by_cases hpl : j + 2 = l.length
                · have fp : ((j : Int) != (l.length : Int) - 2) = false := by simp only [bne_eq_false_iff_eq]; omega
                  have hok : okAt l.length j ⟨op, s, t, d, m⟩ = true := by
                    unfold okAt
                    rw [hie]
                    simp [hkt, hkb, hpl]
                  have HA2 := Lib.hid (HOKJ.out hok)
                  have HT2 : Hid ((storesN (l.take (j + 1)) : Int) = (S0 : Int)) := by
                    refine Lib.hid ?_
                    have := HT.out
                    rw [if_neg (by rw [hkb]; decide)] at this
                    omega
                  clear hie hc0 hc1 hkt hkb hpl hok
                  go_wp2
                  refine ⟨⟨j + 1, by have := HJ.out; omega, rfl, by rw [HT2.out], by go_num, HB2, HA2⟩, ?_⟩
                  simp [intOf]
                  have := HJ.out
                  omega
                · have fp : ((j : Int) != (l.length : Int) - 2) = true := by simp only [bne_iff_ne, ne_eq]; omega
                  have hbad : okAt l.length j ⟨op, s, t, d, m⟩ = false := by
                    unfold okAt
                    rw [hie]; simp [hkt, hkb, hpl]
                  have HR4 : Hid (regErr l = 4) := Lib.hid (HBAD.out hbad)
                  clear hbad
                  clear hie hc0 hc1 hkt hkb hpl
                  go_wp2
                  go_ret
                  exact ⟨by rw [HR4.out]; rfl, HB2.out⟩
              · have fb : (kt.toList == [98, 114, 97, 110, 99, 104]) = false := by rw [HKL.out]; exact beq_eq_false_iff_ne.2 hkb
                have hok : okAt l.length j ⟨op, s, t, d, m⟩ = true := by
                  unfold okAt
                  rw [hie]
                  simp [hkt, hkb]
                have HA2 := Lib.hid (HOKJ.out hok)
                by_cases hks : kindOfB op = storeB
                · have fs : (kt.toList == [115, 116, 111, 114, 101]) = true := by rw [HKL.out, hks]; rfl
                  have HT2 : Hid ((storesN (l.take (j + 1)) : Int) = (S0 : Int) + 1) := by
                    refine Lib.hid ?_
                    have := HT.out
                    rw [if_pos hks] at this
                    omega
                  clear hie hc0 hc1 hkt hkb hks hok
                  go_wp2
                  refine ⟨⟨j + 1, by have := HJ.out; omega, rfl, by rw [HT2.out], by go_num, HB2, HA2⟩, ?_⟩
                  simp [intOf]
                  have := HJ.out
                  omega
                · have fs : (kt.toList == [115, 116, 111, 114, 101]) = false := by rw [HKL.out]; exact beq_eq_false_iff_ne.2 hks
                  have HT2 : Hid ((storesN (l.take (j + 1)) : Int) = (S0 : Int)) := by
                    refine Lib.hid ?_
                    have := HT.out
                    rw [if_neg hks] at this
                    omega
                  clear hie hc0 hc1 hkt hkb hks hok
                  go_wp2
                  refine ⟨⟨j + 1, by have := HJ.out; omega, rfl, by rw [HT2.out], by go_num, HB2, HA2⟩, ?_⟩
                  simp [intOf]
                  have := HJ.out
                  omega
        · have he : j = l.length := by omega
          subst he
          have hall : ∀ k (h : k < l.length), okAt l.length k l[k] = true := fun k hk => HA.out k hk hk
          have HRE := Lib.hid (regErr_ok HN.out HB24.out hall)
          rw [List.take_length] at hs0 hs1 ⊢
          clear hall
          by_cases h8 : storesN l ≤ 8
          · have h8I : (storesN l : Int) ≤ 8 := by omega
            rw [if_pos h8] at HRE
            clear h8
            go_wp2
            go_ret
            exact ⟨by rw [HRE.out]; rfl, HB.out⟩
          · have h8I : (8 : Int) < (storesN l : Int) := by omega
            rw [if_neg h8] at HRE
            clear h8
            go_wp2
            go_ret
            exact ⟨by rw [HRE.out]; rfl, HB.out⟩
end Go.Proofs.YtadoaldnjnkhgaaGreatDoor
namespace Go.Proofs.YtadoaldnjnkhgaaGreatDoor
open Go.RowKit
abbrev gsOf (s : StF) : GS := ⟨s.r, s.hi, s.lo, s.pc, s.next, s.slot⟩
def sumOps : List Nat := [1, 2, 3, 4, 5, 6, 11, 12, 13, 14, 15, 16, 17, 18, 19, 20, 21, 22, 23, 24, 25, 26, 27, 28, 35, 36, 37, 38, 39, 40, 41, 42]
def SumPost (w : World) (sb : Nat) (s : StF) (x : Option (Regs × Int × Int × List Int × Bool)) (e : Ending) (w' : World) : Prop := match x with
  | some y => SumTo w sb s y.1 y.2.1 y.2.2.1 e w'
  | none => SumOv w sb s e w'
def sumZF (s : StF) (o S T D : Nat) (m : Int) : Option (Regs × Int × Int × List Int × Bool) := doZ (fun _ => false) o S T D m (gsOf s) [] false
theorem sumD_any {w : World} {sb S T D o : Nat} {s : StF} {m : Int} (ho : o ∈ sumOps) (h : StB w sb s) (hR : RegsOK s.r) (hS : S < 32) (hT : T < 32) (hD : D < 32) (m0 : 0 ≤ m) (m1 : m < 4294967296) :
    Calls Tryz.prog 107 #[.pointer (some ⟨sb, 0, none⟩), insA o S T D m] w fun e w' => SumPost w sb s (sumZF s o S T D m) e w' := by
  simp only [sumOps, List.mem_cons, List.not_mem_nil, or_false] at ho
  rcases ho with rfl | rfl | rfl | rfl | rfl | rfl | rfl | rfl | rfl | rfl | rfl | rfl | rfl | rfl | rfl | rfl | rfl | rfl | rfl | rfl | rfl | rfl | rfl | rfl | rfl | rfl | rfl | rfl | rfl | rfl | rfl | rfl
  · exact sumD_1 h hR hS hT hD m0 m1
  · exact sumD_2 h hR hS hT hD m0 m1
  · exact sumD_3 h hR hS hT hD m0 m1
  · exact sumD_4 h hR hS hT hD m0 m1
  · exact sumD_5 h hR hS hT hD m0 m1
  · exact sumD_6 h hR hS hT hD m0 m1
  · exact sumD_11 h hR hS hT hD m0 m1
  · exact sumD_12 h hR hS hT hD m0 m1
  · exact sumD_13 h hR hS hT hD m0 m1
  · exact sumD_14 h hR hS hT hD m0 m1
  · exact sumD_15 h hR hS hT hD m0 m1
  · exact sumD_16 h hR hS hT hD m0 m1
  · have hs := sumD_17 h hR hS hT hD m0 m1
    refine hs.mono (fun e w' h1 => ?_)
    show SumPost w sb s (match divZ (s.r S) (s.r T) true with | some r => some _ | none => some _) e w'
    cases hf : divZ (s.r S) (s.r T) true with
    | some q => rw [hf] at h1; exact h1
    | none => rw [hf] at h1; exact h1
  · have hs := sumD_18 h hR hS hT hD m0 m1
    refine hs.mono (fun e w' h1 => ?_)
    show SumPost w sb s (match divZ (s.r S) (s.r T) false with | some r => some _ | none => some _) e w'
    cases hf : divZ (s.r S) (s.r T) false with
    | some q => rw [hf] at h1; exact h1
    | none => rw [hf] at h1; exact h1
  · have hs := sumD_19 h hR hS hT hD m0 m1
    refine hs.mono (fun e w' h1 => ?_)
    show SumPost w sb s (if fitsZ (wrap32 (s.r S) + wrap32 (s.r T)) = true then some _ else none) e w'
    by_cases hf : fitsZ (wrap32 (s.r S) + wrap32 (s.r T)) = true
    · rw [if_pos hf] at h1 ⊢; exact h1
    · rw [if_neg hf] at h1 ⊢; exact h1
  · exact sumD_20 h hR hS hT hD m0 m1
  · have hs := sumD_21 h hR hS hT hD m0 m1
    refine hs.mono (fun e w' h1 => ?_)
    show SumPost w sb s (if fitsZ (wrap32 (s.r S) - wrap32 (s.r T)) = true then some _ else none) e w'
    by_cases hf : fitsZ (wrap32 (s.r S) - wrap32 (s.r T)) = true
    · rw [if_pos hf] at h1 ⊢; exact h1
    · rw [if_neg hf] at h1 ⊢; exact h1
  · exact sumD_22 h hR hS hT hD m0 m1
  · exact sumD_23 h hR hS hT hD m0 m1
  · exact sumD_24 h hR hS hT hD m0 m1
  · exact sumD_25 h hR hS hT hD m0 m1
  · exact sumD_26 h hR hS hT hD m0 m1
  · exact sumD_27 h hR hS hT hD m0 m1
  · exact sumD_28 h hR hS hT hD m0 m1
  · have hs := sumD_35 h hR hS hT hD m0 m1
    refine hs.mono (fun e w' h1 => ?_)
    show SumPost w sb s (if fitsZ (wrap32 (s.r S) + wrap32 (wideS m)) = true then some _ else none) e w'
    by_cases hf : fitsZ (wrap32 (s.r S) + wrap32 (wideS m)) = true
    · rw [if_pos hf] at h1 ⊢; exact h1
    · rw [if_neg hf] at h1 ⊢; exact h1
  · exact sumD_36 h hR hS hT hD m0 m1
  · exact sumD_37 h hR hS hT hD m0 m1
  · exact sumD_38 h hR hS hT hD m0 m1
  · exact sumD_39 h hR hS hT hD m0 m1
  · exact sumD_40 h hR hS hT hD m0 m1
  · exact sumD_41 h hR hS hT hD m0 m1
  · exact sumD_42 h hR hS hT hD m0 m1
theorem kindSum {o : Nat} (ho : o ∈ sumOps) : kindOfB (o : Int) = [115, 117, 109] := by
  have h : ∀ k ∈ sumOps, kindOfB (k : Int) = [115, 117, 109] := by decide +kernel
  exact h o ho
theorem kindLd {o : Nat} (ho : memOp o) : kindOfB (o : Int) = [108, 111, 97, 100] := by
  rcases ho with rfl | rfl | rfl | rfl | rfl <;> decide +kernel
theorem kindSto {o : Nat} (ho : stoOp o) : kindOfB (o : Int) = [115, 116, 111, 114, 101] := by
  rcases ho with rfl | rfl | rfl <;> decide +kernel
theorem kindBr {o : Nat} (ho : brOp o = true) : kindOfB (o : Int) = [98, 114, 97, 110, 99, 104] := by
  have h : ∀ k ∈ [7, 8, 29, 30, 31, 32, 33, 34], kindOfB ((k : Nat) : Int) = [98, 114, 97, 110, 99, 104] := by decide +kernel
  unfold brOp at ho
  exact h o (by simpa using ho)
end Go.Proofs.YtadoaldnjnkhgaaGreatDoor
