/-
  DERIVED. GIVEN WITH THE SEED: THE CARDS: each row of YtadoaldnjnkhgaaGreatDoorRows.lean that lists a variable, with what it lists TIED to the program's text (the seventh form; the later family's looks); each row that meets fmt, with fmt's text TOLD by the authors' own Lean function (tested against real Go, not proved from fmt's source: count such statements apart). THE CARD IS WHAT COUNTS. Prove the row's statement (the work); the ties are given (YtadoaldnjnkhgaaGreatDoorTie.lean); close each card by the builder's one call (the guide's Derived/Test/ToyasCard.lean, 'card_holds'). Laid BY PROGRAM, IN A SANDBOX (cutbox-door.mjs). By AI agents, Wed Nov 11 2026. No macro, syntax, notation, axiom, sorry.
-/
import Derived.Test.YtadoaldnjnkhgaaGreatDoorRows
import GoSem.ClaimSeven
namespace Go.Proofs.YtadoaldnjnkhgaaGreatDoor
namespace Rows

/-- THE TIED CARD OF 'changelinglaw3.LowerEnds'. -/
def lowerEndsCard : Claim7 := { stood := { row := lowerEndsRow, standIns := [], harness := (true, "c31733e1415cfe867e110e02399685841b9f07a3bb390f72cc3a1af821e6f717"), looks := true }, kinds := [], alts := [], laidByText := true, laidKinds := [.handle, .sentinel, .sentinel, .sentinel, .sentinel, .sentinel, .sentinel, .sentinel, .sentinel, .sentinel, .sentinel], laidTests := true, laidLooks := .later }
def LowerEndsCardSaid : Prop := Claim7.holds Tryz.pinned (.plain (OpenSpec.ofChange lowerEndsSpec)) lowerEndsCard

/-- THE SECOND FORM's CARD OF 'changelinglaw3.LowerEnds'. -/
def lowerEndsUptoCard : Claim7 := { stood := { row := lowerEndsUptoRow, standIns := [], harness := (true, "c31733e1415cfe867e110e02399685841b9f07a3bb390f72cc3a1af821e6f717"), looks := true }, kinds := [], alts := [], laidByText := true, laidKinds := [.handle, .sentinel, .sentinel, .sentinel, .sentinel, .sentinel, .sentinel, .sentinel, .sentinel, .sentinel, .sentinel], laidTests := true, laidLooks := .later }
def LowerEndsUptoCardSaid : Prop := Claim7.holds Tryz.pinned (.plain (OpenSpec.upto lowerEndsSpec)) lowerEndsUptoCard
end Rows
end Go.Proofs.YtadoaldnjnkhgaaGreatDoor
