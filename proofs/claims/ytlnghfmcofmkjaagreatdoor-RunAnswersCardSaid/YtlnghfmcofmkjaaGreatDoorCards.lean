/-
  DERIVED. GIVEN WITH THE SEED: THE CARDS: each row of YtlnghfmcofmkjaaGreatDoorRows.lean that lists a variable, with what it lists TIED to the program's text (the seventh form; the later family's looks); each row that meets fmt, with fmt's text TOLD by the authors' own Lean function (tested against real Go, not proved from fmt's source: count such statements apart). THE CARD IS WHAT COUNTS. Prove the row's statement (the work); the ties are given (YtlnghfmcofmkjaaGreatDoorTie.lean); close each card by the builder's one call (the guide's Derived/Test/ToyasCard.lean, 'card_holds'). Laid BY PROGRAM, IN A SANDBOX (cutbox-door.mjs). By AI agents, Wed Nov 11 2026. No macro, syntax, notation, axiom, sorry.
-/
import Derived.Test.YtlnghfmcofmkjaaGreatDoorRows
import GoSem.ClaimSeven
namespace Go.Proofs.YtlnghfmcofmkjaaGreatDoor
namespace Rows

/-- THE TIED CARD OF 'foldlaw3.RunAnswers'. -/
def runAnswersCard : Claim7 := { stood := { row := runAnswersRow, standIns := [], harness := (true, "32b8a9a2f0776cf7a650711f97011914424dc793326f1df7f7c205b30c1ecdfd"), looks := true }, kinds := [], alts := [], laidByText := true, laidKinds := [.data, .data, .data, .data, .handle, .sentinel, .sentinel, .wider, .mapped, .pinned], laidTests := true, laidLooks := .later }
def RunAnswersCardSaid : Prop := Claim7.holds Tryz.pinned (.plain (OpenSpec.ofChange runAnswersSpec)) runAnswersCard

/-- THE TIED CARD OF 'foldlaw3.RunBegins'. -/
def runBeginsCard : Claim7 := { stood := { row := runBeginsRow, standIns := [], harness := (true, "32b8a9a2f0776cf7a650711f97011914424dc793326f1df7f7c205b30c1ecdfd"), looks := true }, kinds := [], alts := [], laidByText := true, laidKinds := [.data, .data, .data, .data, .handle, .sentinel, .sentinel, .wider, .mapped, .pinned], laidTests := true, laidLooks := .later }
def RunBeginsCardSaid : Prop := Claim7.holds Tryz.pinned (.plain (OpenSpec.ofChange runBeginsSpec)) runBeginsCard

/-- THE TIED CARD OF 'foldlaw3.RunComes'. -/
def runComesCard : Claim7 := { stood := { row := runComesRow, standIns := [], harness := (true, "32b8a9a2f0776cf7a650711f97011914424dc793326f1df7f7c205b30c1ecdfd"), looks := true }, kinds := [], alts := [], laidByText := true, laidKinds := [.data, .data, .data, .data, .handle, .sentinel, .sentinel, .wider, .mapped, .pinned], laidTests := true, laidLooks := .later }
def RunComesCardSaid : Prop := Claim7.holds Tryz.pinned (.plain (OpenSpec.ofChange runComesSpec)) runComesCard

/-- THE SECOND FORM's CARD OF 'foldlaw3.RunAnswers'. -/
def runAnswersUptoCard : Claim7 := { stood := { row := runAnswersUptoRow, standIns := [], harness := (true, "32b8a9a2f0776cf7a650711f97011914424dc793326f1df7f7c205b30c1ecdfd"), looks := true }, kinds := [], alts := [], laidByText := true, laidKinds := [.data, .data, .data, .data, .handle, .sentinel, .sentinel, .wider, .mapped, .pinned], laidTests := true, laidLooks := .later }
def RunAnswersUptoCardSaid : Prop := Claim7.holds Tryz.pinned (.plain (OpenSpec.upto runAnswersSpec)) runAnswersUptoCard

/-- THE SECOND FORM's CARD OF 'foldlaw3.RunBegins'. -/
def runBeginsUptoCard : Claim7 := { stood := { row := runBeginsUptoRow, standIns := [], harness := (true, "32b8a9a2f0776cf7a650711f97011914424dc793326f1df7f7c205b30c1ecdfd"), looks := true }, kinds := [], alts := [], laidByText := true, laidKinds := [.data, .data, .data, .data, .handle, .sentinel, .sentinel, .wider, .mapped, .pinned], laidTests := true, laidLooks := .later }
def RunBeginsUptoCardSaid : Prop := Claim7.holds Tryz.pinned (.plain (OpenSpec.upto runBeginsSpec)) runBeginsUptoCard

/-- THE SECOND FORM's CARD OF 'foldlaw3.RunComes'. -/
def runComesUptoCard : Claim7 := { stood := { row := runComesUptoRow, standIns := [], harness := (true, "32b8a9a2f0776cf7a650711f97011914424dc793326f1df7f7c205b30c1ecdfd"), looks := true }, kinds := [], alts := [], laidByText := true, laidKinds := [.data, .data, .data, .data, .handle, .sentinel, .sentinel, .wider, .mapped, .pinned], laidTests := true, laidLooks := .later }
def RunComesUptoCardSaid : Prop := Claim7.holds Tryz.pinned (.plain (OpenSpec.upto runComesSpec)) runComesUptoCard
end Rows
end Go.Proofs.YtlnghfmcofmkjaaGreatDoor
