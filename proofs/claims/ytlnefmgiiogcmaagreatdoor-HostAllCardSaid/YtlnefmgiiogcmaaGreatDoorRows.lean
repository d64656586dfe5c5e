/-
  NARROWER THAN 'FOR EVERY INPUT', by the rows' own cells (each row's printed sentence says how): HostAll: laid.
  DERIVED. THE GIVEN ROWS OF THIS SEAT. 1 by the template 'for every input the law returns true; each argument reads behind the call as it read before'; 0 by the template 'total and deterministic' (their statements: YtlnefmgiiogcmaaGreatDoorTotals.lean).
  GIVEN WITH THE SEED: the statements are not yours to turn. If you find one false, say at which input.
  Laid BY PROGRAM, IN A SANDBOX (cutbox-rows.mjs): the forced cells as the released guide's own fill.sh prints them over the translation 1e2af8731c33be66… (all of the seat's roots in one cut). By AI agents, Wed Nov 11 2026. No macro, syntax, notation, axiom, sorry.
-/
import Derived.Test.YtlnefmgiiogcmaaGreatDoorChecked
import GoSem.Claim
import GoSem.ClaimJoined
import GoSem.ClaimMapViews
import Derived.JoinedTies
import Derived.KernelRfl
namespace Go.Proofs.YtlnefmgiiogcmaaGreatDoor
/- THE CELL 'sum', in the pinned program and in every row, IS THE sha256 OF THE DUMP (.gsa) THAT YtlnefmgiiogcmaaGreatDoorProg.lean LOADS. Nothing in Lean hashes anything: it is a label: what it is worth is what the hold of that sum in a sandbox is worth. -/
noncomputable def Tryz.pinned : Pinned := { name := "ytlnefmgiiogcmaagreatdoor", sum := "1e2af8731c33be66063846788449a0f4404110c8236b594d4ab85a3e81596ca6", checked := Tryz.checked }
namespace Rows
def none {H : Type} : Left H := { results := [], args := [] }

/- WHAT THE LISTED PACKAGE-LEVEL VARIABLES READ AS WHEN THE CALL BEGINS. Each datum BY PROGRAM (the guide's laid-datum.mjs) off the statement by which the dump's own 'gosem.cut.vars' lays the variable. In a bare row this is a premise. The card (YtlnefmgiiogcmaaGreatDoorCards.lean) ties it to the program's text. -/
def laid_changeling_api_ErrBound {H : Type} : DataW H := .iface "*errors.errorString" (.ptr (.agg [.lit (.string [99, 104, 97, 110, 103, 101, 108, 105, 110, 103, 58, 32, 98, 111, 117, 110, 100])]))
def laid_changeling_api_ErrShape {H : Type} : DataW H := .iface "*errors.errorString" (.ptr (.agg [.lit (.string [99, 104, 97, 110, 103, 101, 108, 105, 110, 103, 58, 32, 115, 104, 97, 112, 101])]))
def laid_changeling_api_ErrKind {H : Type} : DataW H := .iface "*errors.errorString" (.ptr (.agg [.lit (.string [99, 104, 97, 110, 103, 101, 108, 105, 110, 103, 58, 32, 107, 105, 110, 100])]))
def laid_changeling_api_ErrNone {H : Type} : DataW H := .iface "*errors.errorString" (.ptr (.agg [.lit (.string [99, 104, 97, 110, 103, 101, 108, 105, 110, 103, 58, 32, 110, 111, 110, 101])]))
def laid_changeling_api_ErrExist {H : Type} : DataW H := .iface "*errors.errorString" (.ptr (.agg [.lit (.string [99, 104, 97, 110, 103, 101, 108, 105, 110, 103, 58, 32, 101, 120, 105, 115, 116])]))
def laid_changeling_api_ErrFull {H : Type} : DataW H := .iface "*errors.errorString" (.ptr (.agg [.lit (.string [99, 104, 97, 110, 103, 101, 108, 105, 110, 103, 58, 32, 102, 117, 108, 108])]))
def laid_changeling_api_ErrAlign {H : Type} : DataW H := .iface "*errors.errorString" (.ptr (.agg [.lit (.string [99, 104, 97, 110, 103, 101, 108, 105, 110, 103, 58, 32, 97, 108, 105, 103, 110])]))
def laid_changeling_api_ErrFar {H : Type} : DataW H := .iface "*errors.errorString" (.ptr (.agg [.lit (.string [99, 104, 97, 110, 103, 101, 108, 105, 110, 103, 58, 32, 102, 97, 114])]))

/-- 'changelinglaw3.HostAll': WHATEVER THE INPUT: true; the input reads as it did. -/
def hostAllSpec : ChangeSpec := { name := "hostAll", fn := fun _ => fun
  | [d1, d2, d3, d4] => { results := [.lit (.bool true)], args := [d1, d2, d3, d4] }
  | _ => none }
def hostAllRow : OpenClaim := { program := "ytlnefmgiiogcmaagreatdoor", sum := "1e2af8731c33be66063846788449a0f4404110c8236b594d4ab85a3e81596ca6", func := "changeling/changelinglaw3.HostAll", spec := "hostAll", inPlace := ["internal/bytealg.IndexByteString", "internal/bytealg.IndexString"], unfollowed := true, recurses := true, named := ["changeling/api.ErrShape", "changeling/api.ErrAlign", "changeling/api.ErrBound", "changeling/api.ErrFull", "changeling/api.ErrExist", "changeling/api.ErrKind", "internal/bytealg.MaxLen", "changeling/api.ErrFar", "changeling/api.ErrNone"], apart := false, laid := [("changeling/api.ErrBound", laid_changeling_api_ErrBound), ("changeling/api.ErrShape", laid_changeling_api_ErrShape), ("changeling/api.ErrKind", laid_changeling_api_ErrKind), ("changeling/api.ErrNone", laid_changeling_api_ErrNone), ("changeling/api.ErrExist", laid_changeling_api_ErrExist), ("changeling/api.ErrFull", laid_changeling_api_ErrFull), ("changeling/api.ErrAlign", laid_changeling_api_ErrAlign), ("changeling/api.ErrFar", laid_changeling_api_ErrFar)] }
def HostAllSaid : Prop := hostAllRow.holds Tryz.pinned (OpenSpec.ofChange hostAllSpec)

/-- ITS FALSE NEIGHBOUR: 'it returns false'. Refute it at one input. -/
def hostAllWrong : ChangeSpec := { name := "hostAll", fn := fun _ => fun
  | [d1, d2, d3, d4] => { results := [.lit (.bool false)], args := [d1, d2, d3, d4] }
  | _ => none }
def HostAllWrongFalsely : Prop := hostAllRow.holds Tryz.pinned (OpenSpec.ofChange hostAllWrong)

/- THE SECOND FORM. 'bulk': how many values and letters a reading holds, each counted each time it is reached (what is shared counts as often as it is met; a slice's spare places count too). A statement '..UptoSaid' is the law's where the arguments, and the package variables that the reading takes, are together of bulk at most 1048576: NARROWER than '..Said'. Prove '..Said' where nothing that the law and all that it calls make is longer than what came in: it says more and counts as full. Else prove '..UptoSaid'. A law counts once. -/
mutual
def uptoBulk {H : Type} : DataW H → Nat
  | .lit (.string bytes) => bytes.length + 1
  | .lit _ => 1
  | .nil => 1
  | .ptr d => uptoBulk d + 1
  | .slice elems spare => uptoBulkAll elems + uptoBulkAll spare + 1
  | .agg parts => uptoBulkAll parts + 1
  | .iface _ d => uptoBulk d + 1
  | .map entries => uptoBulkEntries entries + 1
  | .held _ => 1
def uptoBulkAll {H : Type} : List (DataW H) → Nat
  | [] => 0
  | d :: r => uptoBulk d + uptoBulkAll r
def uptoBulkEntries {H : Type} : List (Lit × DataW H) → Nat
  | [] => 0
  | x :: r => uptoBulkEntry x + uptoBulkEntries r
def uptoBulkEntry {H : Type} : Lit × DataW H → Nat
  | (.string bytes, d) => bytes.length + uptoBulk d + 1
  | (_, d) => uptoBulk d + 1
 end
def uptoSmall : (H : Type) → List (DataW H) → Bool := fun _ ds => decide (uptoBulkAll ds ≤ 1048576)
def OpenSpec.upto (s : _root_.Go.ChangeSpec) : _root_.Go.OpenSpec := { _root_.Go.OpenSpec.ofChange s with cond := some uptoSmall }

/-- 'changelinglaw3.HostAll', WHERE WHAT IT READS IS OF BULK AT MOST 1048576: true; the input reads as it did. -/
def hostAllUptoRow : OpenClaim := { program := "ytlnefmgiiogcmaagreatdoor", sum := "1e2af8731c33be66063846788449a0f4404110c8236b594d4ab85a3e81596ca6", func := "changeling/changelinglaw3.HostAll", spec := "hostAll", inPlace := ["internal/bytealg.IndexByteString", "internal/bytealg.IndexString"], unfollowed := true, recurses := true, named := ["changeling/api.ErrShape", "changeling/api.ErrAlign", "changeling/api.ErrBound", "changeling/api.ErrFull", "changeling/api.ErrExist", "changeling/api.ErrKind", "internal/bytealg.MaxLen", "changeling/api.ErrFar", "changeling/api.ErrNone"], apart := false, laid := [("changeling/api.ErrBound", laid_changeling_api_ErrBound), ("changeling/api.ErrShape", laid_changeling_api_ErrShape), ("changeling/api.ErrKind", laid_changeling_api_ErrKind), ("changeling/api.ErrNone", laid_changeling_api_ErrNone), ("changeling/api.ErrExist", laid_changeling_api_ErrExist), ("changeling/api.ErrFull", laid_changeling_api_ErrFull), ("changeling/api.ErrAlign", laid_changeling_api_ErrAlign), ("changeling/api.ErrFar", laid_changeling_api_ErrFar)], narrowed := true }
def HostAllUptoSaid : Prop := hostAllUptoRow.holds Tryz.pinned (OpenSpec.upto hostAllSpec)

end Rows
end Go.Proofs.YtlnefmgiiogcmaaGreatDoor
