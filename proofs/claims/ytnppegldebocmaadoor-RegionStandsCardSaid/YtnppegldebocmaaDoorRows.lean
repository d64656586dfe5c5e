/-
  NARROWER THAN 'FOR EVERY INPUT', by the rows' own cells (each row's printed sentence says how): CodeKinds: laid · RegionStands: laid · CodeBack: laid · CodeWords: laid · AsmApart: laid.
  DERIVED. THE GIVEN ROWS OF THIS SEAT. 5 by the template 'for every input the law returns true; each argument reads behind the call as it read before'; 0 by the template 'total and deterministic' (their statements: YtnppegldebocmaaDoorTotals.lean).
  GIVEN WITH THE SEED: the statements are not yours to turn. If you find one false, say at which input.
  Laid BY PROGRAM, IN A SANDBOX (cutbox-rows.mjs): the forced cells as the released guide's own fill.sh prints them over the translation 679f43550d4203de… (all of the seat's roots in one cut). By AI agents, Wed Nov 11 2026. No macro, syntax, notation, axiom, sorry.
-/
import Derived.Test.YtnppegldebocmaaDoorChecked
import GoSem.Claim
import GoSem.ClaimJoined
import GoSem.ClaimMapViews
import Derived.JoinedTies
import Derived.KernelRfl
namespace Go.Proofs.YtnppegldebocmaaDoor
/- THE CELL 'sum', in the pinned program and in every row, IS THE sha256 OF THE DUMP (.gsa) THAT YtnppegldebocmaaDoorProg.lean LOADS. Nothing in Lean hashes anything: it is a label: what it is worth is what the hold of that sum in a sandbox is worth. -/
noncomputable def Tryd.pinned : Pinned := { name := "ytnppegldebocmaadoor", sum := "679f43550d4203de1445dc63e3da5ceb1bb7c68bd81e42eac99f25a0ae5174b2", checked := Tryd.checked }
namespace Rows
def none {H : Type} : Left H := { results := [], args := [] }

/- WHAT THE LISTED PACKAGE-LEVEL VARIABLES READ AS WHEN THE CALL BEGINS. Each datum BY PROGRAM (the guide's laid-datum.mjs) off the statement by which the dump's own 'gosem.cut.vars' lays the variable. In a bare row this is a premise. The card (YtnppegldebocmaaDoorCards.lean) ties it to the program's text. -/
def laid_changeling_api_ErrBound {H : Type} : DataW H := .iface "*errors.errorString" (.ptr (.agg [.lit (.string [99, 104, 97, 110, 103, 101, 108, 105, 110, 103, 58, 32, 98, 111, 117, 110, 100])]))
def laid_changeling_api_ErrKind {H : Type} : DataW H := .iface "*errors.errorString" (.ptr (.agg [.lit (.string [99, 104, 97, 110, 103, 101, 108, 105, 110, 103, 58, 32, 107, 105, 110, 100])]))
def laid_changeling_api_ErrShape {H : Type} : DataW H := .iface "*errors.errorString" (.ptr (.agg [.lit (.string [99, 104, 97, 110, 103, 101, 108, 105, 110, 103, 58, 32, 115, 104, 97, 112, 101])]))
def laid_changeling_api_ErrNone {H : Type} : DataW H := .iface "*errors.errorString" (.ptr (.agg [.lit (.string [99, 104, 97, 110, 103, 101, 108, 105, 110, 103, 58, 32, 110, 111, 110, 101])]))
def laid_changeling_api_ErrAlign {H : Type} : DataW H := .iface "*errors.errorString" (.ptr (.agg [.lit (.string [99, 104, 97, 110, 103, 101, 108, 105, 110, 103, 58, 32, 97, 108, 105, 103, 110])]))
def laid_changeling_api_ErrFar {H : Type} : DataW H := .iface "*errors.errorString" (.ptr (.agg [.lit (.string [99, 104, 97, 110, 103, 101, 108, 105, 110, 103, 58, 32, 102, 97, 114])]))
def laid_errors_errorType {H : Type} : DataW H := .iface "internal/reflectlite.rtype" (.agg [.ptr (.lit (.string [101, 114, 114, 111, 114]))])
def laid_changeling_api_ErrText {H : Type} : DataW H := .iface "*errors.errorString" (.ptr (.agg [.lit (.string [99, 104, 97, 110, 103, 101, 108, 105, 110, 103, 58, 32, 116, 101, 120, 116])]))
def laid_changeling_api_ErrName {H : Type} : DataW H := .iface "*errors.errorString" (.ptr (.agg [.lit (.string [99, 104, 97, 110, 103, 101, 108, 105, 110, 103, 58, 32, 110, 97, 109, 101])]))
def laid_changeling_api_ErrExist {H : Type} : DataW H := .iface "*errors.errorString" (.ptr (.agg [.lit (.string [99, 104, 97, 110, 103, 101, 108, 105, 110, 103, 58, 32, 101, 120, 105, 115, 116])]))
def laid_changeling_api_ErrFull {H : Type} : DataW H := .iface "*errors.errorString" (.ptr (.agg [.lit (.string [99, 104, 97, 110, 103, 101, 108, 105, 110, 103, 58, 32, 102, 117, 108, 108])]))
def laid_math_bits_deBruijn32tab {H : Type} : DataW H := .agg [.lit (.int .u8 0), .lit (.int .u8 1), .lit (.int .u8 28), .lit (.int .u8 2), .lit (.int .u8 29), .lit (.int .u8 14), .lit (.int .u8 24), .lit (.int .u8 3), .lit (.int .u8 30), .lit (.int .u8 22), .lit (.int .u8 20), .lit (.int .u8 15), .lit (.int .u8 25), .lit (.int .u8 17), .lit (.int .u8 4), .lit (.int .u8 8), .lit (.int .u8 31), .lit (.int .u8 27), .lit (.int .u8 13), .lit (.int .u8 23), .lit (.int .u8 21), .lit (.int .u8 19), .lit (.int .u8 16), .lit (.int .u8 7), .lit (.int .u8 26), .lit (.int .u8 12), .lit (.int .u8 18), .lit (.int .u8 6), .lit (.int .u8 11), .lit (.int .u8 5), .lit (.int .u8 10), .lit (.int .u8 9)]
def laid_math_bits_deBruijn64tab {H : Type} : DataW H := .agg [.lit (.int .u8 0), .lit (.int .u8 1), .lit (.int .u8 56), .lit (.int .u8 2), .lit (.int .u8 57), .lit (.int .u8 49), .lit (.int .u8 28), .lit (.int .u8 3), .lit (.int .u8 61), .lit (.int .u8 58), .lit (.int .u8 42), .lit (.int .u8 50), .lit (.int .u8 38), .lit (.int .u8 29), .lit (.int .u8 17), .lit (.int .u8 4), .lit (.int .u8 62), .lit (.int .u8 47), .lit (.int .u8 59), .lit (.int .u8 36), .lit (.int .u8 45), .lit (.int .u8 43), .lit (.int .u8 51), .lit (.int .u8 22), .lit (.int .u8 53), .lit (.int .u8 39), .lit (.int .u8 33), .lit (.int .u8 30), .lit (.int .u8 24), .lit (.int .u8 18), .lit (.int .u8 12), .lit (.int .u8 5), .lit (.int .u8 63), .lit (.int .u8 55), .lit (.int .u8 48), .lit (.int .u8 27), .lit (.int .u8 60), .lit (.int .u8 41), .lit (.int .u8 37), .lit (.int .u8 16), .lit (.int .u8 46), .lit (.int .u8 35), .lit (.int .u8 44), .lit (.int .u8 21), .lit (.int .u8 52), .lit (.int .u8 32), .lit (.int .u8 23), .lit (.int .u8 11), .lit (.int .u8 54), .lit (.int .u8 26), .lit (.int .u8 40), .lit (.int .u8 15), .lit (.int .u8 34), .lit (.int .u8 20), .lit (.int .u8 31), .lit (.int .u8 10), .lit (.int .u8 25), .lit (.int .u8 14), .lit (.int .u8 19), .lit (.int .u8 9), .lit (.int .u8 13), .lit (.int .u8 8), .lit (.int .u8 7), .lit (.int .u8 6)]
def laid_internal_strconv_uint64pow10 {H : Type} : DataW H := .agg [.lit (.int .u64 1), .lit (.int .u64 10), .lit (.int .u64 100), .lit (.int .u64 1000), .lit (.int .u64 10000), .lit (.int .u64 100000), .lit (.int .u64 1000000), .lit (.int .u64 10000000), .lit (.int .u64 100000000), .lit (.int .u64 1000000000), .lit (.int .u64 10000000000), .lit (.int .u64 100000000000), .lit (.int .u64 1000000000000), .lit (.int .u64 10000000000000), .lit (.int .u64 100000000000000), .lit (.int .u64 1000000000000000), .lit (.int .u64 10000000000000000), .lit (.int .u64 100000000000000000), .lit (.int .u64 1000000000000000000), .lit (.int .u64 10000000000000000000)]

/-- 'changelinglaw1.CodeKinds': WHATEVER THE INPUT: true; the input reads as it did. -/
def codeKindsSpec : ChangeSpec := { name := "codeKinds", fn := fun _ => fun
  | [d1, d2] => { results := [.lit (.bool true)], args := [d1, d2] }
  | _ => none }
def codeKindsRow : OpenClaim := { program := "ytnppegldebocmaadoor", sum := "679f43550d4203de1445dc63e3da5ceb1bb7c68bd81e42eac99f25a0ae5174b2", func := "changeling/changelinglaw1.CodeKinds", spec := "codeKinds", inPlace := ["internal/bytealg.IndexByteString", "internal/bytealg.IndexString"], named := ["changeling/api.ErrKind", "changeling/api.ErrBound", "internal/bytealg.MaxLen"], apart := false, laid := [("changeling/api.ErrBound", laid_changeling_api_ErrBound), ("changeling/api.ErrKind", laid_changeling_api_ErrKind)] }
def CodeKindsSaid : Prop := codeKindsRow.holds Tryd.pinned (OpenSpec.ofChange codeKindsSpec)

/-- ITS FALSE NEIGHBOUR: 'it returns false'. Refute it at one input. -/
def codeKindsWrong : ChangeSpec := { name := "codeKinds", fn := fun _ => fun
  | [d1, d2] => { results := [.lit (.bool false)], args := [d1, d2] }
  | _ => none }
def CodeKindsWrongFalsely : Prop := codeKindsRow.holds Tryd.pinned (OpenSpec.ofChange codeKindsWrong)

/-- 'changelinglaw2.RegionStands': WHATEVER THE INPUT: true; the input reads as it did. -/
def regionStandsSpec : ChangeSpec := { name := "regionStands", fn := fun _ => fun
  | [d1, d2, d3] => { results := [.lit (.bool true)], args := [d1, d2, d3] }
  | _ => none }
def regionStandsRow : OpenClaim := { program := "ytnppegldebocmaadoor", sum := "679f43550d4203de1445dc63e3da5ceb1bb7c68bd81e42eac99f25a0ae5174b2", func := "changeling/changelinglaw2.RegionStands", spec := "regionStands", inPlace := ["internal/bytealg.IndexByteString", "internal/bytealg.IndexString"], named := ["changeling/api.ErrShape", "changeling/api.ErrBound", "changeling/api.ErrAlign", "changeling/api.ErrFar", "changeling/api.ErrNone", "changeling/api.ErrKind", "internal/bytealg.MaxLen"], apart := false, laid := [("changeling/api.ErrBound", laid_changeling_api_ErrBound), ("changeling/api.ErrShape", laid_changeling_api_ErrShape), ("changeling/api.ErrKind", laid_changeling_api_ErrKind), ("changeling/api.ErrNone", laid_changeling_api_ErrNone), ("changeling/api.ErrAlign", laid_changeling_api_ErrAlign), ("changeling/api.ErrFar", laid_changeling_api_ErrFar)] }
def RegionStandsSaid : Prop := regionStandsRow.holds Tryd.pinned (OpenSpec.ofChange regionStandsSpec)

/-- ITS FALSE NEIGHBOUR: 'it returns false'. Refute it at one input. -/
def regionStandsWrong : ChangeSpec := { name := "regionStands", fn := fun _ => fun
  | [d1, d2, d3] => { results := [.lit (.bool false)], args := [d1, d2, d3] }
  | _ => none }
def RegionStandsWrongFalsely : Prop := regionStandsRow.holds Tryd.pinned (OpenSpec.ofChange regionStandsWrong)

/-- 'changelinglaw1.CodeBack': WHATEVER THE INPUT: true; the input reads as it did. -/
def codeBackSpec : ChangeSpec := { name := "codeBack", fn := fun _ => fun
  | [d1, d2] => { results := [.lit (.bool true)], args := [d1, d2] }
  | _ => none }
def codeBackRow : OpenClaim := { program := "ytnppegldebocmaadoor", sum := "679f43550d4203de1445dc63e3da5ceb1bb7c68bd81e42eac99f25a0ae5174b2", func := "changeling/changelinglaw1.CodeBack", spec := "codeBack", inPlace := ["internal/bytealg.IndexByteString", "internal/bytealg.IndexString", "internal/reflectlite.ValueOf", "(internal/reflectlite.Value).Type", "(internal/reflectlite.Value).IsNil", "internal/reflectlite.TypeOf", "(internal/reflectlite.Value).Elem", "(internal/reflectlite.Value).Set"], unfollowed := true, recurses := true, named := ["changeling/api.ErrKind", "changeling/api.ErrBound", "changeling/api.ErrText", "changeling/api.ErrShape", "changeling/api.ErrName", "changeling/api.ErrNone", "changeling/api.ErrExist", "changeling/api.ErrFull", "changeling/api.ErrAlign", "changeling/api.ErrFar", "errors.errorType", "internal/bytealg.MaxLen"], apart := false, laid := [("errors.errorType", laid_errors_errorType), ("changeling/api.ErrText", laid_changeling_api_ErrText), ("changeling/api.ErrBound", laid_changeling_api_ErrBound), ("changeling/api.ErrShape", laid_changeling_api_ErrShape), ("changeling/api.ErrKind", laid_changeling_api_ErrKind), ("changeling/api.ErrName", laid_changeling_api_ErrName), ("changeling/api.ErrNone", laid_changeling_api_ErrNone), ("changeling/api.ErrExist", laid_changeling_api_ErrExist), ("changeling/api.ErrFull", laid_changeling_api_ErrFull), ("changeling/api.ErrAlign", laid_changeling_api_ErrAlign), ("changeling/api.ErrFar", laid_changeling_api_ErrFar)] }
def CodeBackSaid : Prop := codeBackRow.holds Tryd.pinned (OpenSpec.ofChange codeBackSpec)

/-- ITS FALSE NEIGHBOUR: 'it returns false'. Refute it at one input. -/
def codeBackWrong : ChangeSpec := { name := "codeBack", fn := fun _ => fun
  | [d1, d2] => { results := [.lit (.bool false)], args := [d1, d2] }
  | _ => none }
def CodeBackWrongFalsely : Prop := codeBackRow.holds Tryd.pinned (OpenSpec.ofChange codeBackWrong)

/-- 'changelinglaw1.CodeWords': WHATEVER THE INPUT: true; the input reads as it did. -/
def codeWordsSpec : ChangeSpec := { name := "codeWords", fn := fun _ => fun
  | [d1, d2, d3] => { results := [.lit (.bool true)], args := [d1, d2, d3] }
  | _ => none }
def codeWordsRow : OpenClaim := { program := "ytnppegldebocmaadoor", sum := "679f43550d4203de1445dc63e3da5ceb1bb7c68bd81e42eac99f25a0ae5174b2", func := "changeling/changelinglaw1.CodeWords", spec := "codeWords", inPlace := ["internal/bytealg.IndexByteString", "internal/bytealg.IndexString", "internal/reflectlite.ValueOf", "(internal/reflectlite.Value).Type", "(internal/reflectlite.Value).IsNil", "internal/reflectlite.TypeOf", "(internal/reflectlite.Value).Elem", "(internal/reflectlite.Value).Set"], unfollowed := true, recurses := true, named := ["changeling/api.ErrKind", "changeling/api.ErrBound", "changeling/api.ErrText", "changeling/api.ErrShape", "changeling/api.ErrName", "changeling/api.ErrNone", "changeling/api.ErrExist", "changeling/api.ErrFull", "changeling/api.ErrAlign", "changeling/api.ErrFar", "errors.errorType", "internal/bytealg.MaxLen"], apart := false, laid := [("errors.errorType", laid_errors_errorType), ("changeling/api.ErrText", laid_changeling_api_ErrText), ("changeling/api.ErrBound", laid_changeling_api_ErrBound), ("changeling/api.ErrShape", laid_changeling_api_ErrShape), ("changeling/api.ErrKind", laid_changeling_api_ErrKind), ("changeling/api.ErrName", laid_changeling_api_ErrName), ("changeling/api.ErrNone", laid_changeling_api_ErrNone), ("changeling/api.ErrExist", laid_changeling_api_ErrExist), ("changeling/api.ErrFull", laid_changeling_api_ErrFull), ("changeling/api.ErrAlign", laid_changeling_api_ErrAlign), ("changeling/api.ErrFar", laid_changeling_api_ErrFar)] }
def CodeWordsSaid : Prop := codeWordsRow.holds Tryd.pinned (OpenSpec.ofChange codeWordsSpec)

/-- ITS FALSE NEIGHBOUR: 'it returns false'. Refute it at one input. -/
def codeWordsWrong : ChangeSpec := { name := "codeWords", fn := fun _ => fun
  | [d1, d2, d3] => { results := [.lit (.bool false)], args := [d1, d2, d3] }
  | _ => none }
def CodeWordsWrongFalsely : Prop := codeWordsRow.holds Tryd.pinned (OpenSpec.ofChange codeWordsWrong)

/-- 'changelinglaw1.AsmApart': WHATEVER THE INPUT: true; the input reads as it did. -/
def asmApartSpec : ChangeSpec := { name := "asmApart", fn := fun _ => fun
  | [d1, d2] => { results := [.lit (.bool true)], args := [d1, d2] }
  | _ => none }
def asmApartRow : OpenClaim := { program := "ytnppegldebocmaadoor", sum := "679f43550d4203de1445dc63e3da5ceb1bb7c68bd81e42eac99f25a0ae5174b2", func := "changeling/changelinglaw1.AsmApart", spec := "asmApart", inPlace := ["internal/bytealg.IndexByteString", "internal/bytealg.IndexString", "internal/abi.NoEscape", "internal/bytealg.MakeNoZero"], named := ["changeling/api.ErrKind", "changeling/api.ErrBound", "internal/strconv.uint64pow10", "math/bits.deBruijn32tab", "math/bits.deBruijn64tab", "internal/bytealg.MaxLen"], apart := false, laid := [("math/bits.deBruijn32tab", laid_math_bits_deBruijn32tab), ("math/bits.deBruijn64tab", laid_math_bits_deBruijn64tab), ("internal/strconv.uint64pow10", laid_internal_strconv_uint64pow10), ("changeling/api.ErrBound", laid_changeling_api_ErrBound), ("changeling/api.ErrKind", laid_changeling_api_ErrKind)] }
def AsmApartSaid : Prop := asmApartRow.holds Tryd.pinned (OpenSpec.ofChange asmApartSpec)

/-- ITS FALSE NEIGHBOUR: 'it returns false'. Refute it at one input. -/
def asmApartWrong : ChangeSpec := { name := "asmApart", fn := fun _ => fun
  | [d1, d2] => { results := [.lit (.bool false)], args := [d1, d2] }
  | _ => none }
def AsmApartWrongFalsely : Prop := asmApartRow.holds Tryd.pinned (OpenSpec.ofChange asmApartWrong)

/- THE SECOND FORM. 'bulk': how many values and letters a reading holds, each counted each time it is reached (what is shared counts as often as it is met; a slice's spare places count too). A statement '..UptoSaid' is the law's where the arguments, and the package variables that the reading takes, are together of bulk at most 1048576: NARROWER than '..Said'. Prove '..Said' where nothing that the law and all that it calls make is longer than what came in: it says more and counts as full. Else prove '..UptoSaid'. A law counts once. -/
mutual
def uptoBulk {H : Type} : DataW H → Nat
  | .lit (.string bytes) => bytes.length + 1
  | .lit _ => 1
  | .nil => 1
  | .ptr d => uptoBulk d + 1
  | .slice elems spare => uptoBulkAll elems + uptoBulkAll spare + 1
  | .agg parts => uptoBulkAll parts + 1
  | .iface _ d => uptoBulk d + 1
  | .map entries => uptoBulkEntries entries + 1
  | .held _ => 1
def uptoBulkAll {H : Type} : List (DataW H) → Nat
  | [] => 0
  | d :: r => uptoBulk d + uptoBulkAll r
def uptoBulkEntries {H : Type} : List (Lit × DataW H) → Nat
  | [] => 0
  | x :: r => uptoBulkEntry x + uptoBulkEntries r
def uptoBulkEntry {H : Type} : Lit × DataW H → Nat
  | (.string bytes, d) => bytes.length + uptoBulk d + 1
  | (_, d) => uptoBulk d + 1
 end
def uptoSmall : (H : Type) → List (DataW H) → Bool := fun _ ds => decide (uptoBulkAll ds ≤ 1048576)
def OpenSpec.upto (s : _root_.Go.ChangeSpec) : _root_.Go.OpenSpec := { _root_.Go.OpenSpec.ofChange s with cond := some uptoSmall }

/-- 'changelinglaw1.CodeKinds', WHERE WHAT IT READS IS OF BULK AT MOST 1048576: true; the input reads as it did. -/
def codeKindsUptoRow : OpenClaim := { program := "ytnppegldebocmaadoor", sum := "679f43550d4203de1445dc63e3da5ceb1bb7c68bd81e42eac99f25a0ae5174b2", func := "changeling/changelinglaw1.CodeKinds", spec := "codeKinds", inPlace := ["internal/bytealg.IndexByteString", "internal/bytealg.IndexString"], named := ["changeling/api.ErrKind", "changeling/api.ErrBound", "internal/bytealg.MaxLen"], apart := false, laid := [("changeling/api.ErrBound", laid_changeling_api_ErrBound), ("changeling/api.ErrKind", laid_changeling_api_ErrKind)], narrowed := true }
def CodeKindsUptoSaid : Prop := codeKindsUptoRow.holds Tryd.pinned (OpenSpec.upto codeKindsSpec)

/-- 'changelinglaw2.RegionStands', WHERE WHAT IT READS IS OF BULK AT MOST 1048576: true; the input reads as it did. -/
def regionStandsUptoRow : OpenClaim := { program := "ytnppegldebocmaadoor", sum := "679f43550d4203de1445dc63e3da5ceb1bb7c68bd81e42eac99f25a0ae5174b2", func := "changeling/changelinglaw2.RegionStands", spec := "regionStands", inPlace := ["internal/bytealg.IndexByteString", "internal/bytealg.IndexString"], named := ["changeling/api.ErrShape", "changeling/api.ErrBound", "changeling/api.ErrAlign", "changeling/api.ErrFar", "changeling/api.ErrNone", "changeling/api.ErrKind", "internal/bytealg.MaxLen"], apart := false, laid := [("changeling/api.ErrBound", laid_changeling_api_ErrBound), ("changeling/api.ErrShape", laid_changeling_api_ErrShape), ("changeling/api.ErrKind", laid_changeling_api_ErrKind), ("changeling/api.ErrNone", laid_changeling_api_ErrNone), ("changeling/api.ErrAlign", laid_changeling_api_ErrAlign), ("changeling/api.ErrFar", laid_changeling_api_ErrFar)], narrowed := true }
def RegionStandsUptoSaid : Prop := regionStandsUptoRow.holds Tryd.pinned (OpenSpec.upto regionStandsSpec)

/-- 'changelinglaw1.CodeBack', WHERE WHAT IT READS IS OF BULK AT MOST 1048576: true; the input reads as it did. -/
def codeBackUptoRow : OpenClaim := { program := "ytnppegldebocmaadoor", sum := "679f43550d4203de1445dc63e3da5ceb1bb7c68bd81e42eac99f25a0ae5174b2", func := "changeling/changelinglaw1.CodeBack", spec := "codeBack", inPlace := ["internal/bytealg.IndexByteString", "internal/bytealg.IndexString", "internal/reflectlite.ValueOf", "(internal/reflectlite.Value).Type", "(internal/reflectlite.Value).IsNil", "internal/reflectlite.TypeOf", "(internal/reflectlite.Value).Elem", "(internal/reflectlite.Value).Set"], unfollowed := true, recurses := true, named := ["changeling/api.ErrKind", "changeling/api.ErrBound", "changeling/api.ErrText", "changeling/api.ErrShape", "changeling/api.ErrName", "changeling/api.ErrNone", "changeling/api.ErrExist", "changeling/api.ErrFull", "changeling/api.ErrAlign", "changeling/api.ErrFar", "errors.errorType", "internal/bytealg.MaxLen"], apart := false, laid := [("errors.errorType", laid_errors_errorType), ("changeling/api.ErrText", laid_changeling_api_ErrText), ("changeling/api.ErrBound", laid_changeling_api_ErrBound), ("changeling/api.ErrShape", laid_changeling_api_ErrShape), ("changeling/api.ErrKind", laid_changeling_api_ErrKind), ("changeling/api.ErrName", laid_changeling_api_ErrName), ("changeling/api.ErrNone", laid_changeling_api_ErrNone), ("changeling/api.ErrExist", laid_changeling_api_ErrExist), ("changeling/api.ErrFull", laid_changeling_api_ErrFull), ("changeling/api.ErrAlign", laid_changeling_api_ErrAlign), ("changeling/api.ErrFar", laid_changeling_api_ErrFar)], narrowed := true }
def CodeBackUptoSaid : Prop := codeBackUptoRow.holds Tryd.pinned (OpenSpec.upto codeBackSpec)

/-- 'changelinglaw1.CodeWords', WHERE WHAT IT READS IS OF BULK AT MOST 1048576: true; the input reads as it did. -/
def codeWordsUptoRow : OpenClaim := { program := "ytnppegldebocmaadoor", sum := "679f43550d4203de1445dc63e3da5ceb1bb7c68bd81e42eac99f25a0ae5174b2", func := "changeling/changelinglaw1.CodeWords", spec := "codeWords", inPlace := ["internal/bytealg.IndexByteString", "internal/bytealg.IndexString", "internal/reflectlite.ValueOf", "(internal/reflectlite.Value).Type", "(internal/reflectlite.Value).IsNil", "internal/reflectlite.TypeOf", "(internal/reflectlite.Value).Elem", "(internal/reflectlite.Value).Set"], unfollowed := true, recurses := true, named := ["changeling/api.ErrKind", "changeling/api.ErrBound", "changeling/api.ErrText", "changeling/api.ErrShape", "changeling/api.ErrName", "changeling/api.ErrNone", "changeling/api.ErrExist", "changeling/api.ErrFull", "changeling/api.ErrAlign", "changeling/api.ErrFar", "errors.errorType", "internal/bytealg.MaxLen"], apart := false, laid := [("errors.errorType", laid_errors_errorType), ("changeling/api.ErrText", laid_changeling_api_ErrText), ("changeling/api.ErrBound", laid_changeling_api_ErrBound), ("changeling/api.ErrShape", laid_changeling_api_ErrShape), ("changeling/api.ErrKind", laid_changeling_api_ErrKind), ("changeling/api.ErrName", laid_changeling_api_ErrName), ("changeling/api.ErrNone", laid_changeling_api_ErrNone), ("changeling/api.ErrExist", laid_changeling_api_ErrExist), ("changeling/api.ErrFull", laid_changeling_api_ErrFull), ("changeling/api.ErrAlign", laid_changeling_api_ErrAlign), ("changeling/api.ErrFar", laid_changeling_api_ErrFar)], narrowed := true }
def CodeWordsUptoSaid : Prop := codeWordsUptoRow.holds Tryd.pinned (OpenSpec.upto codeWordsSpec)

/-- 'changelinglaw1.AsmApart', WHERE WHAT IT READS IS OF BULK AT MOST 1048576: true; the input reads as it did. -/
def asmApartUptoRow : OpenClaim := { program := "ytnppegldebocmaadoor", sum := "679f43550d4203de1445dc63e3da5ceb1bb7c68bd81e42eac99f25a0ae5174b2", func := "changeling/changelinglaw1.AsmApart", spec := "asmApart", inPlace := ["internal/bytealg.IndexByteString", "internal/bytealg.IndexString", "internal/abi.NoEscape", "internal/bytealg.MakeNoZero"], named := ["changeling/api.ErrKind", "changeling/api.ErrBound", "internal/strconv.uint64pow10", "math/bits.deBruijn32tab", "math/bits.deBruijn64tab", "internal/bytealg.MaxLen"], apart := false, laid := [("math/bits.deBruijn32tab", laid_math_bits_deBruijn32tab), ("math/bits.deBruijn64tab", laid_math_bits_deBruijn64tab), ("internal/strconv.uint64pow10", laid_internal_strconv_uint64pow10), ("changeling/api.ErrBound", laid_changeling_api_ErrBound), ("changeling/api.ErrKind", laid_changeling_api_ErrKind)], narrowed := true }
def AsmApartUptoSaid : Prop := asmApartUptoRow.holds Tryd.pinned (OpenSpec.upto asmApartSpec)

end Rows
end Go.Proofs.YtnppegldebocmaaDoor
