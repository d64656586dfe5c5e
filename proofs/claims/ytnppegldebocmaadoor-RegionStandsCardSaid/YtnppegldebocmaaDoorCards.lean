/-
  DERIVED. GIVEN WITH THE SEED: THE CARDS: each row of YtnppegldebocmaaDoorRows.lean that lists a variable, with what it lists TIED to the program's text (the seventh form; the later family's looks); each row that meets fmt, with fmt's text TOLD by the authors' own Lean function (tested against real Go, not proved from fmt's source: count such statements apart). THE CARD IS WHAT COUNTS. Prove the row's statement (the work); the ties are given (YtnppegldebocmaaDoorTie.lean); close each card by the builder's one call (the guide's Derived/Test/ToyasCard.lean, 'card_holds'). Laid BY PROGRAM, IN A SANDBOX (cutbox-door.mjs). By AI agents, Wed Nov 11 2026. No macro, syntax, notation, axiom, sorry.
-/
import Derived.Test.YtnppegldebocmaaDoorRows
import GoSem.ClaimSeven
namespace Go.Proofs.YtnppegldebocmaaDoor
namespace Rows

/-- THE TIED CARD OF 'changelinglaw1.CodeKinds'. -/
def codeKindsCard : Claim7 := { stood := { row := codeKindsRow, standIns := [], harness := (true, "c042752f47e9312a6bc12d9682feee1253b3a85b031609864cd0ffdc5a6f49ab"), looks := true }, kinds := [], alts := [], laidByText := true, laidKinds := [.sentinel, .sentinel], laidTests := true, laidLooks := .later }
def CodeKindsCardSaid : Prop := Claim7.holds Tryd.pinned (.plain (OpenSpec.ofChange codeKindsSpec)) codeKindsCard

/-- THE TIED CARD OF 'changelinglaw2.RegionStands'. -/
def regionStandsCard : Claim7 := { stood := { row := regionStandsRow, standIns := [], harness := (true, "c042752f47e9312a6bc12d9682feee1253b3a85b031609864cd0ffdc5a6f49ab"), looks := true }, kinds := [], alts := [], laidByText := true, laidKinds := [.sentinel, .sentinel, .sentinel, .sentinel, .sentinel, .sentinel], laidTests := true, laidLooks := .later }
def RegionStandsCardSaid : Prop := Claim7.holds Tryd.pinned (.plain (OpenSpec.ofChange regionStandsSpec)) regionStandsCard

/-- THE TIED CARD OF 'changelinglaw1.CodeBack'. -/
def codeBackCard : Claim7 := { stood := { row := codeBackRow, standIns := [], harness := (true, "c042752f47e9312a6bc12d9682feee1253b3a85b031609864cd0ffdc5a6f49ab"), looks := true }, kinds := [], alts := [], laidByText := true, laidKinds := [.handle, .sentinel, .sentinel, .sentinel, .sentinel, .sentinel, .sentinel, .sentinel, .sentinel, .sentinel, .sentinel], laidTests := true, laidLooks := .later }
def CodeBackCardSaid : Prop := Claim7.holds Tryd.pinned (.plain (OpenSpec.ofChange codeBackSpec)) codeBackCard

/-- THE TIED CARD OF 'changelinglaw1.CodeWords'. -/
def codeWordsCard : Claim7 := { stood := { row := codeWordsRow, standIns := [], harness := (true, "c042752f47e9312a6bc12d9682feee1253b3a85b031609864cd0ffdc5a6f49ab"), looks := true }, kinds := [], alts := [], laidByText := true, laidKinds := [.handle, .sentinel, .sentinel, .sentinel, .sentinel, .sentinel, .sentinel, .sentinel, .sentinel, .sentinel, .sentinel], laidTests := true, laidLooks := .later }
def CodeWordsCardSaid : Prop := Claim7.holds Tryd.pinned (.plain (OpenSpec.ofChange codeWordsSpec)) codeWordsCard

/-- THE TIED CARD OF 'changelinglaw1.AsmApart'. -/
def asmApartCard : Claim7 := { stood := { row := asmApartRow, standIns := [], harness := (true, "c042752f47e9312a6bc12d9682feee1253b3a85b031609864cd0ffdc5a6f49ab"), looks := true }, kinds := [], alts := [], laidByText := true, laidKinds := [.data, .data, .data, .sentinel, .sentinel], laidTests := true, laidLooks := .later }
def AsmApartCardSaid : Prop := Claim7.holds Tryd.pinned (.plain (OpenSpec.ofChange asmApartSpec)) asmApartCard

/-- THE SECOND FORM's CARD OF 'changelinglaw1.CodeKinds'. -/
def codeKindsUptoCard : Claim7 := { stood := { row := codeKindsUptoRow, standIns := [], harness := (true, "c042752f47e9312a6bc12d9682feee1253b3a85b031609864cd0ffdc5a6f49ab"), looks := true }, kinds := [], alts := [], laidByText := true, laidKinds := [.sentinel, .sentinel], laidTests := true, laidLooks := .later }
def CodeKindsUptoCardSaid : Prop := Claim7.holds Tryd.pinned (.plain (OpenSpec.upto codeKindsSpec)) codeKindsUptoCard

/-- THE SECOND FORM's CARD OF 'changelinglaw2.RegionStands'. -/
def regionStandsUptoCard : Claim7 := { stood := { row := regionStandsUptoRow, standIns := [], harness := (true, "c042752f47e9312a6bc12d9682feee1253b3a85b031609864cd0ffdc5a6f49ab"), looks := true }, kinds := [], alts := [], laidByText := true, laidKinds := [.sentinel, .sentinel, .sentinel, .sentinel, .sentinel, .sentinel], laidTests := true, laidLooks := .later }
def RegionStandsUptoCardSaid : Prop := Claim7.holds Tryd.pinned (.plain (OpenSpec.upto regionStandsSpec)) regionStandsUptoCard

/-- THE SECOND FORM's CARD OF 'changelinglaw1.CodeBack'. -/
def codeBackUptoCard : Claim7 := { stood := { row := codeBackUptoRow, standIns := [], harness := (true, "c042752f47e9312a6bc12d9682feee1253b3a85b031609864cd0ffdc5a6f49ab"), looks := true }, kinds := [], alts := [], laidByText := true, laidKinds := [.handle, .sentinel, .sentinel, .sentinel, .sentinel, .sentinel, .sentinel, .sentinel, .sentinel, .sentinel, .sentinel], laidTests := true, laidLooks := .later }
def CodeBackUptoCardSaid : Prop := Claim7.holds Tryd.pinned (.plain (OpenSpec.upto codeBackSpec)) codeBackUptoCard

/-- THE SECOND FORM's CARD OF 'changelinglaw1.CodeWords'. -/
def codeWordsUptoCard : Claim7 := { stood := { row := codeWordsUptoRow, standIns := [], harness := (true, "c042752f47e9312a6bc12d9682feee1253b3a85b031609864cd0ffdc5a6f49ab"), looks := true }, kinds := [], alts := [], laidByText := true, laidKinds := [.handle, .sentinel, .sentinel, .sentinel, .sentinel, .sentinel, .sentinel, .sentinel, .sentinel, .sentinel, .sentinel], laidTests := true, laidLooks := .later }
def CodeWordsUptoCardSaid : Prop := Claim7.holds Tryd.pinned (.plain (OpenSpec.upto codeWordsSpec)) codeWordsUptoCard

/-- THE SECOND FORM's CARD OF 'changelinglaw1.AsmApart'. -/
def asmApartUptoCard : Claim7 := { stood := { row := asmApartUptoRow, standIns := [], harness := (true, "c042752f47e9312a6bc12d9682feee1253b3a85b031609864cd0ffdc5a6f49ab"), looks := true }, kinds := [], alts := [], laidByText := true, laidKinds := [.data, .data, .data, .sentinel, .sentinel], laidTests := true, laidLooks := .later }
def AsmApartUptoCardSaid : Prop := Claim7.holds Tryd.pinned (.plain (OpenSpec.upto asmApartSpec)) asmApartUptoCard
end Rows
end Go.Proofs.YtnppegldebocmaaDoor
