/-
  DERIVED. GIVEN WITH THE SEED: THE CARDS: each row of YtkkmlolnikomdaaGreatDoorRows.lean that lists a variable, with what it lists TIED to the program's text (the seventh form; the later family's looks); each row that meets fmt, with fmt's text TOLD by the authors' own Lean function (tested against real Go, not proved from fmt's source: count such statements apart). THE CARD IS WHAT COUNTS. Prove the row's statement (the work); the ties are given (YtkkmlolnikomdaaGreatDoorTie.lean); close each card by the builder's one call (the guide's Derived/Test/ToyasCard.lean, 'card_holds'). Laid BY PROGRAM, IN A SANDBOX (cutbox-door.mjs). By AI agents, Wed Nov 11 2026. No macro, syntax, notation, axiom, sorry.
-/
import Derived.Test.YtkkmlolnikomdaaGreatDoorRows
import GoSem.ClaimSeven
namespace Go.Proofs.YtkkmlolnikomdaaGreatDoor
namespace Rows

/-- THE TIED CARD OF 'foldlaw2.ServerPlays'. -/
def serverPlaysCard : Claim7 := { stood := { row := serverPlaysRow, standIns := [], harness := (true, "de6177f1bc0b4e22dc3ddd0dce2de92bfa3214ef290e2d420a4c732351dd2dba"), looks := true }, kinds := [], alts := [], laidByText := true, laidKinds := [.handle], laidTests := true, laidLooks := .later }
def ServerPlaysCardSaid : Prop := Claim7.holds Tryz.pinned (.plain (OpenSpec.ofChange serverPlaysSpec)) serverPlaysCard

/-- THE SECOND FORM's CARD OF 'foldlaw2.ServerPlays'. -/
def serverPlaysUptoCard : Claim7 := { stood := { row := serverPlaysUptoRow, standIns := [], harness := (true, "de6177f1bc0b4e22dc3ddd0dce2de92bfa3214ef290e2d420a4c732351dd2dba"), looks := true }, kinds := [], alts := [], laidByText := true, laidKinds := [.handle], laidTests := true, laidLooks := .later }
def ServerPlaysUptoCardSaid : Prop := Claim7.holds Tryz.pinned (.plain (OpenSpec.upto serverPlaysSpec)) serverPlaysUptoCard
end Rows
end Go.Proofs.YtkkmlolnikomdaaGreatDoor
