/-
  DERIVED. GIVEN WITH THE SEED: THE CARDS: each row of YtlnehoedflbifaaDoorRows.lean that lists a variable, with what it lists TIED to the program's text (the seventh form; the later family's looks); each row that meets fmt, with fmt's text TOLD by the authors' own Lean function (tested against real Go, not proved from fmt's source: count such statements apart). THE CARD IS WHAT COUNTS. Prove the row's statement (the work); the ties are given (YtlnehoedflbifaaDoorTie.lean); close each card by the builder's one call (the guide's Derived/Test/ToyasCard.lean, 'card_holds'). Laid BY PROGRAM, IN A SANDBOX (cutbox-door.mjs). By AI agents, Wed Nov 11 2026. No macro, syntax, notation, axiom, sorry.
-/
import Derived.Test.YtlnehoedflbifaaDoorRows
import GoSem.ClaimSeven
namespace Go.Proofs.YtlnehoedflbifaaDoor
namespace Rows

/-- THE TIED CARD OF 'foldlaw4.LogTwice'. -/
def logTwiceCard : Claim7 := { stood := { row := logTwiceRow, standIns := [], harness := (true, "9827afc4da945165dca6207385b993b6184fa48dde29061f475bb32780ff986a"), looks := true }, kinds := [], alts := [], laidByText := true, laidKinds := [.data, .data, .data, .handle], laidTests := true, laidLooks := .later }
def LogTwiceCardSaid : Prop := Claim7.holds Tryd.pinned (.plain (OpenSpec.ofChange logTwiceSpec)) logTwiceCard

/-- THE SECOND FORM's CARD OF 'foldlaw4.LogTwice'. -/
def logTwiceUptoCard : Claim7 := { stood := { row := logTwiceUptoRow, standIns := [], harness := (true, "9827afc4da945165dca6207385b993b6184fa48dde29061f475bb32780ff986a"), looks := true }, kinds := [], alts := [], laidByText := true, laidKinds := [.data, .data, .data, .handle], laidTests := true, laidLooks := .later }
def LogTwiceUptoCardSaid : Prop := Claim7.holds Tryd.pinned (.plain (OpenSpec.upto logTwiceSpec)) logTwiceUptoCard
end Rows
end Go.Proofs.YtlnehoedflbifaaDoor
