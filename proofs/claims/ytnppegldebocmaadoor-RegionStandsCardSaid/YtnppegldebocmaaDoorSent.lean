/- The listed errors' variables: what the condition gives of them. Conditions: as each theorem states. -/
import Derived.Test.YtnppegldebocmaaDoorRows
import Derived.ProofKit
import Derived.LaidMore
import Derived.OpenShut
import Derived.Stop.Joined
import Derived.Stop.LaidErr
namespace Go.Proofs.YtnppegldebocmaaDoor
open Go.ChangeShapes Go.WideShapes Go.ChangeAt Go.RowKit
theorem own : ownKnob Tryd.prog.godebug = none := by kernel_rfl
theorem gErrKind : Tryd.prog.globalNamed "changeling/api.ErrKind" = some 5 := by kernel_rfl
theorem gErrBound : Tryd.prog.globalNamed "changeling/api.ErrBound" = some 1 := by kernel_rfl
theorem tErrKind : (Tryd.prog.globals[5]?).map (·.type) = some 39 := by kernel_rfl
theorem tErrBound : (Tryd.prog.globals[1]?).map (·.type) = some 39 := by kernel_rfl
theorem cellsES : Tryd.prog.cellsOf 191 = 1 := by kernel_rfl
theorem cellsStr : Tryd.prog.cellsOf 9 = 1 := by kernel_rfl
theorem rowES (u : TypeId) (h : Tryd.prog.typeName? 3 u = some "*errors.errorString") : u = 171 :=
  typeName_ptr_named (nm := "errors.errorString") (by kernel_rfl) (by kernel_rfl) (by decide) u h
end Go.Proofs.YtnppegldebocmaaDoor
