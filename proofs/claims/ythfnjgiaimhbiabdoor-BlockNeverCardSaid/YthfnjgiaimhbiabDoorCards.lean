/-
  DERIVED. GIVEN WITH THE SEED: THE CARDS: each row of YthfnjgiaimhbiabDoorRows.lean that lists a variable, with what it lists TIED to the program's text (the seventh form; the later family's looks); each row that meets fmt, with fmt's text TOLD by the authors' own Lean function (tested against real Go, not proved from fmt's source: count such statements apart). THE CARD IS WHAT COUNTS. Prove the row's statement (the work); the ties are given (YthfnjgiaimhbiabDoorTie.lean); close each card by the builder's one call (the guide's Derived/Test/ToyasCard.lean, 'card_holds'). Laid BY PROGRAM, IN A SANDBOX (cutbox-door.mjs). By AI agents, Wed Nov 11 2026. No macro, syntax, notation, axiom, sorry.
-/
import Derived.Test.YthfnjgiaimhbiabDoorRows
import GoSem.ClaimSeven
namespace Go.Proofs.YthfnjgiaimhbiabDoor
namespace Rows

/-- THE TIED CARD OF 'foldlaw2.BlockNever'. -/
def blockNeverCard : Claim7 := { stood := { row := blockNeverRow, standIns := [], harness := (true, "65c929ed811ef6f0b32208e155a55490e0fd6caa59922a5b27630382f688afb7"), looks := true }, kinds := [], alts := [], laidByText := true, laidKinds := [.handle], laidTests := true, laidLooks := .later }
def BlockNeverCardSaid : Prop := Claim7.holds Tryd.pinned (.plain (OpenSpec.ofChange blockNeverSpec)) blockNeverCard

/-- THE TIED CARD OF 'foldlaw2.BlockPlays'. -/
def blockPlaysCard : Claim7 := { stood := { row := blockPlaysRow, standIns := [], harness := (true, "65c929ed811ef6f0b32208e155a55490e0fd6caa59922a5b27630382f688afb7"), looks := true }, kinds := [], alts := [], laidByText := true, laidKinds := [.handle], laidTests := true, laidLooks := .later }
def BlockPlaysCardSaid : Prop := Claim7.holds Tryd.pinned (.plain (OpenSpec.ofChange blockPlaysSpec)) blockPlaysCard

/-- THE TIED CARD OF 'foldlaw1.LifeUnlike'. -/
def lifeUnlikeCard : Claim7 := { stood := { row := lifeUnlikeRow, standIns := [], harness := (true, "65c929ed811ef6f0b32208e155a55490e0fd6caa59922a5b27630382f688afb7"), looks := true }, kinds := [], alts := [], laidByText := true, laidKinds := [.handle], laidTests := true, laidLooks := .later }
def LifeUnlikeCardSaid : Prop := Claim7.holds Tryd.pinned (.plain (OpenSpec.ofChange lifeUnlikeSpec)) lifeUnlikeCard

/-- THE SECOND FORM's CARD OF 'foldlaw2.BlockNever'. -/
def blockNeverUptoCard : Claim7 := { stood := { row := blockNeverUptoRow, standIns := [], harness := (true, "65c929ed811ef6f0b32208e155a55490e0fd6caa59922a5b27630382f688afb7"), looks := true }, kinds := [], alts := [], laidByText := true, laidKinds := [.handle], laidTests := true, laidLooks := .later }
def BlockNeverUptoCardSaid : Prop := Claim7.holds Tryd.pinned (.plain (OpenSpec.upto blockNeverSpec)) blockNeverUptoCard

/-- THE SECOND FORM's CARD OF 'foldlaw2.BlockPlays'. -/
def blockPlaysUptoCard : Claim7 := { stood := { row := blockPlaysUptoRow, standIns := [], harness := (true, "65c929ed811ef6f0b32208e155a55490e0fd6caa59922a5b27630382f688afb7"), looks := true }, kinds := [], alts := [], laidByText := true, laidKinds := [.handle], laidTests := true, laidLooks := .later }
def BlockPlaysUptoCardSaid : Prop := Claim7.holds Tryd.pinned (.plain (OpenSpec.upto blockPlaysSpec)) blockPlaysUptoCard

/-- THE SECOND FORM's CARD OF 'foldlaw1.LifeUnlike'. -/
def lifeUnlikeUptoCard : Claim7 := { stood := { row := lifeUnlikeUptoRow, standIns := [], harness := (true, "65c929ed811ef6f0b32208e155a55490e0fd6caa59922a5b27630382f688afb7"), looks := true }, kinds := [], alts := [], laidByText := true, laidKinds := [.handle], laidTests := true, laidLooks := .later }
def LifeUnlikeUptoCardSaid : Prop := Claim7.holds Tryd.pinned (.plain (OpenSpec.upto lifeUnlikeSpec)) lifeUnlikeUptoCard
end Rows
end Go.Proofs.YthfnjgiaimhbiabDoor
