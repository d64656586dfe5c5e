/- The listed errors' variables: what the condition gives of them. Conditions: as each theorem states. -/
import Derived.Test.YtnppegldebocmaaGreatDoorRows
import Derived.ProofKit
import Derived.LaidMore
import Derived.OpenShut
import Derived.Stop.Joined
import Derived.Stop.LaidErr
namespace Go.Proofs.YtnppegldebocmaaGreatDoor
open Go.ChangeShapes Go.WideShapes Go.ChangeAt Go.RowKit
theorem own : ownKnob Tryz.prog.godebug = none := by kernel_rfl
theorem gErrKind : Tryz.prog.globalNamed "changeling/api.ErrKind" = some 4 := by kernel_rfl
theorem gErrBound : Tryz.prog.globalNamed "changeling/api.ErrBound" = some 5 := by kernel_rfl
theorem tErrKind : (Tryz.prog.globals[4]?).map (·.type) = some 27 := by kernel_rfl
theorem tErrBound : (Tryz.prog.globals[5]?).map (·.type) = some 27 := by kernel_rfl
theorem cellsES : Tryz.prog.cellsOf 216 = 1 := by kernel_rfl
theorem cellsStr : Tryz.prog.cellsOf 9 = 1 := by kernel_rfl
theorem rowES (u : TypeId) (h : Tryz.prog.typeName? 3 u = some "*errors.errorString") : u = 214 :=
  typeName_ptr_named (nm := "errors.errorString") (by kernel_rfl) (by kernel_rfl) (by decide) u h
end Go.Proofs.YtnppegldebocmaaGreatDoor
