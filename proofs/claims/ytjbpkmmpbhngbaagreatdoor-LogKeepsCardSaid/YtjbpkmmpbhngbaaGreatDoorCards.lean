/-
  DERIVED. GIVEN WITH THE SEED: THE CARDS: each row of YtjbpkmmpbhngbaaGreatDoorRows.lean that lists a variable, with what it lists TIED to the program's text (the seventh form; the later family's looks); each row that meets fmt, with fmt's text TOLD by the authors' own Lean function (tested against real Go, not proved from fmt's source: count such statements apart). THE CARD IS WHAT COUNTS. Prove the row's statement (the work); the ties are given (YtjbpkmmpbhngbaaGreatDoorTie.lean); close each card by the builder's one call (the guide's Derived/Test/ToyasCard.lean, 'card_holds'). Laid BY PROGRAM, IN A SANDBOX (cutbox-door.mjs). By AI agents, Wed Nov 11 2026. No macro, syntax, notation, axiom, sorry.
-/
import Derived.Test.YtjbpkmmpbhngbaaGreatDoorRows
import GoSem.ClaimSeven
namespace Go.Proofs.YtjbpkmmpbhngbaaGreatDoor
namespace Rows

/-- THE TIED CARD OF 'foldlaw3.LogKeeps'. -/
def logKeepsCard : Claim7 := { stood := { row := logKeepsRow, standIns := [], harness := (true, "473c880181cc9f893e4b447574ec965f47144b2ee53413f19c1e2f11d468cf09"), looks := true }, kinds := [], alts := [], laidByText := true, laidKinds := [.data, .data, .data, .handle, .sentinel, .sentinel, .listed, .data], laidTests := true, laidLooks := .later }
def LogKeepsCardSaid : Prop := Claim7.holds Tryz.pinned (.plain (OpenSpec.ofChange logKeepsSpec)) logKeepsCard

/-- THE TIED CARD OF 'foldlaw3.RunAnswers'. -/
def runAnswersCard : Claim7 := { stood := { row := runAnswersRow, standIns := [], harness := (true, "473c880181cc9f893e4b447574ec965f47144b2ee53413f19c1e2f11d468cf09"), looks := true }, kinds := [], alts := [], laidByText := true, laidKinds := [.data, .data, .data, .data, .handle, .sentinel, .sentinel, .wider, .mapped, .pinned], laidTests := true, laidLooks := .later }
def RunAnswersCardSaid : Prop := Claim7.holds Tryz.pinned (.plain (OpenSpec.ofChange runAnswersSpec)) runAnswersCard

/-- THE TIED CARD OF 'foldlaw3.RunBegins'. -/
def runBeginsCard : Claim7 := { stood := { row := runBeginsRow, standIns := [], harness := (true, "473c880181cc9f893e4b447574ec965f47144b2ee53413f19c1e2f11d468cf09"), looks := true }, kinds := [], alts := [], laidByText := true, laidKinds := [.data, .data, .data, .data, .handle, .sentinel, .sentinel, .wider, .mapped, .pinned], laidTests := true, laidLooks := .later }
def RunBeginsCardSaid : Prop := Claim7.holds Tryz.pinned (.plain (OpenSpec.ofChange runBeginsSpec)) runBeginsCard

/-- THE TIED CARD OF 'foldlaw3.RunComes'. -/
def runComesCard : Claim7 := { stood := { row := runComesRow, standIns := [], harness := (true, "473c880181cc9f893e4b447574ec965f47144b2ee53413f19c1e2f11d468cf09"), looks := true }, kinds := [], alts := [], laidByText := true, laidKinds := [.data, .data, .data, .data, .handle, .sentinel, .sentinel, .wider, .mapped, .pinned], laidTests := true, laidLooks := .later }
def RunComesCardSaid : Prop := Claim7.holds Tryz.pinned (.plain (OpenSpec.ofChange runComesSpec)) runComesCard

/-- THE SECOND FORM's CARD OF 'foldlaw3.LogKeeps'. -/
def logKeepsUptoCard : Claim7 := { stood := { row := logKeepsUptoRow, standIns := [], harness := (true, "473c880181cc9f893e4b447574ec965f47144b2ee53413f19c1e2f11d468cf09"), looks := true }, kinds := [], alts := [], laidByText := true, laidKinds := [.data, .data, .data, .handle, .sentinel, .sentinel, .listed, .data], laidTests := true, laidLooks := .later }
def LogKeepsUptoCardSaid : Prop := Claim7.holds Tryz.pinned (.plain (OpenSpec.upto logKeepsSpec)) logKeepsUptoCard

/-- THE SECOND FORM's CARD OF 'foldlaw3.RunAnswers'. -/
def runAnswersUptoCard : Claim7 := { stood := { row := runAnswersUptoRow, standIns := [], harness := (true, "473c880181cc9f893e4b447574ec965f47144b2ee53413f19c1e2f11d468cf09"), looks := true }, kinds := [], alts := [], laidByText := true, laidKinds := [.data, .data, .data, .data, .handle, .sentinel, .sentinel, .wider, .mapped, .pinned], laidTests := true, laidLooks := .later }
def RunAnswersUptoCardSaid : Prop := Claim7.holds Tryz.pinned (.plain (OpenSpec.upto runAnswersSpec)) runAnswersUptoCard

/-- THE SECOND FORM's CARD OF 'foldlaw3.RunBegins'. -/
def runBeginsUptoCard : Claim7 := { stood := { row := runBeginsUptoRow, standIns := [], harness := (true, "473c880181cc9f893e4b447574ec965f47144b2ee53413f19c1e2f11d468cf09"), looks := true }, kinds := [], alts := [], laidByText := true, laidKinds := [.data, .data, .data, .data, .handle, .sentinel, .sentinel, .wider, .mapped, .pinned], laidTests := true, laidLooks := .later }
def RunBeginsUptoCardSaid : Prop := Claim7.holds Tryz.pinned (.plain (OpenSpec.upto runBeginsSpec)) runBeginsUptoCard

/-- THE SECOND FORM's CARD OF 'foldlaw3.RunComes'. -/
def runComesUptoCard : Claim7 := { stood := { row := runComesUptoRow, standIns := [], harness := (true, "473c880181cc9f893e4b447574ec965f47144b2ee53413f19c1e2f11d468cf09"), looks := true }, kinds := [], alts := [], laidByText := true, laidKinds := [.data, .data, .data, .data, .handle, .sentinel, .sentinel, .wider, .mapped, .pinned], laidTests := true, laidLooks := .later }
def RunComesUptoCardSaid : Prop := Claim7.holds Tryz.pinned (.plain (OpenSpec.upto runComesSpec)) runComesUptoCard
end Rows
end Go.Proofs.YtjbpkmmpbhngbaaGreatDoor
