/-
  DERIVED. GIVEN WITH THE SEED: THE CARDS: each row of YtlnefmgiiogcmaaGreatDoorRows.lean that lists a variable, with what it lists TIED to the program's text (the seventh form; the later family's looks); each row that meets fmt, with fmt's text TOLD by the authors' own Lean function (tested against real Go, not proved from fmt's source: count such statements apart). THE CARD IS WHAT COUNTS. Prove the row's statement (the work); the ties are given (YtlnefmgiiogcmaaGreatDoorTie.lean); close each card by the builder's one call (the guide's Derived/Test/ToyasCard.lean, 'card_holds'). Laid BY PROGRAM, IN A SANDBOX (cutbox-door.mjs). By AI agents, Wed Nov 11 2026. No macro, syntax, notation, axiom, sorry.
-/
import Derived.Test.YtlnefmgiiogcmaaGreatDoorRows
import GoSem.ClaimSeven
namespace Go.Proofs.YtlnefmgiiogcmaaGreatDoor
namespace Rows

/-- THE TIED CARD OF 'changelinglaw3.HostAll'. -/
def hostAllCard : Claim7 := { stood := { row := hostAllRow, standIns := [], harness := (true, "114e2ff4231a6310e884c456d880df7563c5cc7e7d869ae40b49c55a929e36f3"), looks := false }, kinds := [], alts := [], laidByText := true, laidKinds := [.sentinel, .sentinel, .sentinel, .sentinel, .sentinel, .sentinel, .sentinel, .sentinel], laidTests := true, laidLooks := .later }
def HostAllCardSaid : Prop := Claim7.holds Tryz.pinned (.plain (OpenSpec.ofChange hostAllSpec)) hostAllCard

/-- THE SECOND FORM's CARD OF 'changelinglaw3.HostAll'. -/
def hostAllUptoCard : Claim7 := { stood := { row := hostAllUptoRow, standIns := [], harness := (true, "114e2ff4231a6310e884c456d880df7563c5cc7e7d869ae40b49c55a929e36f3"), looks := false }, kinds := [], alts := [], laidByText := true, laidKinds := [.sentinel, .sentinel, .sentinel, .sentinel, .sentinel, .sentinel, .sentinel, .sentinel], laidTests := true, laidLooks := .later }
def HostAllUptoCardSaid : Prop := Claim7.holds Tryz.pinned (.plain (OpenSpec.upto hostAllSpec)) hostAllUptoCard
end Rows
end Go.Proofs.YtlnefmgiiogcmaaGreatDoor
