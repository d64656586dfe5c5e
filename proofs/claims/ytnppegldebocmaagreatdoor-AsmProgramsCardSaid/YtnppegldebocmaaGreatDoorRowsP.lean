/- The document's rows as cells: what stands where. No program in sight. Conditions: none. -/
import Derived.Test.YtnppegldebocmaaGreatDoorMatches
namespace Go.Proofs.YtnppegldebocmaaGreatDoor
open Go.RowKit
/-- A row of the document's table, as cells. -/
def rowCells (k : Nat) : List Value := [.string (bsl (nameB k)), .int .i64 (majorN k : Int), .int .i64 (minorN k : Int), .string (bsl (fieldsB k)), .string (bsl (orderB k)), .string (bsl (kindB k))]
def rowsCells : Array Value := ((List.range 54).flatMap rowCells).toArray
theorem rows_size : rowsCells.size = 324 := by kernel_rfl
set_option maxRecDepth 100000 in
theorem rows_ext_all : (List.range 54).map (fun k => rowsCells.extract (6 * k) (6 * k + 6)) = (List.range 54).map (fun k => (rowCells k).toArray) := by kernel_rfl
theorem rows_ext (k : Nat) (hk : k < 54) : rowsCells.extract (6 * k) (6 * k + 6) = (rowCells k).toArray := by
  have h := congrArg (fun l => l[k]?) rows_ext_all
  simpa [hk] using h
theorem rows_cell (k j : Nat) (hk : k < 54) (hj : j < 6) : rowsCells[6 * k + j]? = (rowCells k)[j]? := by
  have h := rows_ext k hk
  have h2 := congrArg (fun a : Array Value => a[j]?) h
  simp only [List.getElem?_toArray] at h2
  rw [← h2, Array.getElem?_extract]
  have : j < min (6 * k + 6) rowsCells.size - 6 * k := by rw [rows_size]; omega
  rw [if_pos this]
end Go.Proofs.YtnppegldebocmaaGreatDoor
