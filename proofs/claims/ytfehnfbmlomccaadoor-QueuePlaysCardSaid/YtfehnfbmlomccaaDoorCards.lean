/-
  DERIVED. GIVEN WITH THE SEED: THE CARDS: each row of YtfehnfbmlomccaaDoorRows.lean that lists a variable, with what it lists TIED to the program's text (the seventh form; the later family's looks); each row that meets fmt, with fmt's text TOLD by the authors' own Lean function (tested against real Go, not proved from fmt's source: count such statements apart). THE CARD IS WHAT COUNTS. Prove the row's statement (the work); the ties are given (YtfehnfbmlomccaaDoorTie.lean); close each card by the builder's one call (the guide's Derived/Test/ToyasCard.lean, 'card_holds'). Laid BY PROGRAM, IN A SANDBOX (cutbox-door.mjs). By AI agents, Wed Nov 11 2026. No macro, syntax, notation, axiom, sorry.
-/
import Derived.Test.YtfehnfbmlomccaaDoorRows
import GoSem.ClaimSeven
namespace Go.Proofs.YtfehnfbmlomccaaDoor
namespace Rows

/-- THE TIED CARD OF 'foldlaw2.QueueOrders'. -/
def queueOrdersCard : Claim7 := { stood := { row := queueOrdersRow, standIns := [], harness := (true, "66cbc7156a3857b9246b4a6f36f9aa610fb894f0f3d4b7096457684d4e6efada"), looks := true }, kinds := [], alts := [], laidByText := true, laidKinds := [.handle], laidTests := true, laidLooks := .later }
def QueueOrdersCardSaid : Prop := Claim7.holds Tryd.pinned (.plain (OpenSpec.ofChange queueOrdersSpec)) queueOrdersCard

/-- THE TIED CARD OF 'foldlaw4.QueueFull'. -/
def queueFullCard : Claim7 := { stood := { row := queueFullRow, standIns := [], harness := (true, "66cbc7156a3857b9246b4a6f36f9aa610fb894f0f3d4b7096457684d4e6efada"), looks := true }, kinds := [], alts := [], laidByText := true, laidKinds := [.handle], laidTests := true, laidLooks := .later }
def QueueFullCardSaid : Prop := Claim7.holds Tryd.pinned (.plain (OpenSpec.ofChange queueFullSpec)) queueFullCard

/-- THE TIED CARD OF 'foldlaw2.QueuePlays'. -/
def queuePlaysCard : Claim7 := { stood := { row := queuePlaysRow, standIns := [], harness := (true, "66cbc7156a3857b9246b4a6f36f9aa610fb894f0f3d4b7096457684d4e6efada"), looks := true }, kinds := [], alts := [], laidByText := true, laidKinds := [.handle], laidTests := true, laidLooks := .later }
def QueuePlaysCardSaid : Prop := Claim7.holds Tryd.pinned (.plain (OpenSpec.ofChange queuePlaysSpec)) queuePlaysCard

/-- THE TIED CARD OF 'foldlaw2.VaultPlays'. -/
def vaultPlaysCard : Claim7 := { stood := { row := vaultPlaysRow, standIns := [], harness := (true, "66cbc7156a3857b9246b4a6f36f9aa610fb894f0f3d4b7096457684d4e6efada"), looks := true }, kinds := [], alts := [], laidByText := true, laidKinds := [.handle], laidTests := true, laidLooks := .later }
def VaultPlaysCardSaid : Prop := Claim7.holds Tryd.pinned (.plain (OpenSpec.ofChange vaultPlaysSpec)) vaultPlaysCard

/-- THE TIED CARD OF 'foldlaw1.SpentTells'. -/
def spentTellsCard : Claim7 := { stood := { row := spentTellsRow, standIns := [], harness := (true, "66cbc7156a3857b9246b4a6f36f9aa610fb894f0f3d4b7096457684d4e6efada"), looks := true }, kinds := [], alts := [], laidByText := true, laidKinds := [.handle], laidTests := true, laidLooks := .later }
def SpentTellsCardSaid : Prop := Claim7.holds Tryd.pinned (.plain (OpenSpec.ofChange spentTellsSpec)) spentTellsCard

/-- THE TIED CARD OF 'foldlaw1.SpentOnce'. -/
def spentOnceCard : Claim7 := { stood := { row := spentOnceRow, standIns := [], harness := (true, "66cbc7156a3857b9246b4a6f36f9aa610fb894f0f3d4b7096457684d4e6efada"), looks := true }, kinds := [], alts := [], laidByText := true, laidKinds := [.handle], laidTests := true, laidLooks := .later }
def SpentOnceCardSaid : Prop := Claim7.holds Tryd.pinned (.plain (OpenSpec.ofChange spentOnceSpec)) spentOnceCard

/-- THE TIED CARD OF 'foldlaw4.LogTwice'. -/
def logTwiceCard : Claim7 := { stood := { row := logTwiceRow, standIns := [], harness := (true, "66cbc7156a3857b9246b4a6f36f9aa610fb894f0f3d4b7096457684d4e6efada"), looks := true }, kinds := [], alts := [], laidByText := true, laidKinds := [.data, .data, .data, .handle], laidTests := true, laidLooks := .later }
def LogTwiceCardSaid : Prop := Claim7.holds Tryd.pinned (.plain (OpenSpec.ofChange logTwiceSpec)) logTwiceCard

/-- THE SECOND FORM's CARD OF 'foldlaw2.QueueOrders'. -/
def queueOrdersUptoCard : Claim7 := { stood := { row := queueOrdersUptoRow, standIns := [], harness := (true, "66cbc7156a3857b9246b4a6f36f9aa610fb894f0f3d4b7096457684d4e6efada"), looks := true }, kinds := [], alts := [], laidByText := true, laidKinds := [.handle], laidTests := true, laidLooks := .later }
def QueueOrdersUptoCardSaid : Prop := Claim7.holds Tryd.pinned (.plain (OpenSpec.upto queueOrdersSpec)) queueOrdersUptoCard

/-- THE SECOND FORM's CARD OF 'foldlaw4.QueueFull'. -/
def queueFullUptoCard : Claim7 := { stood := { row := queueFullUptoRow, standIns := [], harness := (true, "66cbc7156a3857b9246b4a6f36f9aa610fb894f0f3d4b7096457684d4e6efada"), looks := true }, kinds := [], alts := [], laidByText := true, laidKinds := [.handle], laidTests := true, laidLooks := .later }
def QueueFullUptoCardSaid : Prop := Claim7.holds Tryd.pinned (.plain (OpenSpec.upto queueFullSpec)) queueFullUptoCard

/-- THE SECOND FORM's CARD OF 'foldlaw2.QueuePlays'. -/
def queuePlaysUptoCard : Claim7 := { stood := { row := queuePlaysUptoRow, standIns := [], harness := (true, "66cbc7156a3857b9246b4a6f36f9aa610fb894f0f3d4b7096457684d4e6efada"), looks := true }, kinds := [], alts := [], laidByText := true, laidKinds := [.handle], laidTests := true, laidLooks := .later }
def QueuePlaysUptoCardSaid : Prop := Claim7.holds Tryd.pinned (.plain (OpenSpec.upto queuePlaysSpec)) queuePlaysUptoCard

/-- THE SECOND FORM's CARD OF 'foldlaw2.VaultPlays'. -/
def vaultPlaysUptoCard : Claim7 := { stood := { row := vaultPlaysUptoRow, standIns := [], harness := (true, "66cbc7156a3857b9246b4a6f36f9aa610fb894f0f3d4b7096457684d4e6efada"), looks := true }, kinds := [], alts := [], laidByText := true, laidKinds := [.handle], laidTests := true, laidLooks := .later }
def VaultPlaysUptoCardSaid : Prop := Claim7.holds Tryd.pinned (.plain (OpenSpec.upto vaultPlaysSpec)) vaultPlaysUptoCard

/-- THE SECOND FORM's CARD OF 'foldlaw1.SpentTells'. -/
def spentTellsUptoCard : Claim7 := { stood := { row := spentTellsUptoRow, standIns := [], harness := (true, "66cbc7156a3857b9246b4a6f36f9aa610fb894f0f3d4b7096457684d4e6efada"), looks := true }, kinds := [], alts := [], laidByText := true, laidKinds := [.handle], laidTests := true, laidLooks := .later }
def SpentTellsUptoCardSaid : Prop := Claim7.holds Tryd.pinned (.plain (OpenSpec.upto spentTellsSpec)) spentTellsUptoCard

/-- THE SECOND FORM's CARD OF 'foldlaw1.SpentOnce'. -/
def spentOnceUptoCard : Claim7 := { stood := { row := spentOnceUptoRow, standIns := [], harness := (true, "66cbc7156a3857b9246b4a6f36f9aa610fb894f0f3d4b7096457684d4e6efada"), looks := true }, kinds := [], alts := [], laidByText := true, laidKinds := [.handle], laidTests := true, laidLooks := .later }
def SpentOnceUptoCardSaid : Prop := Claim7.holds Tryd.pinned (.plain (OpenSpec.upto spentOnceSpec)) spentOnceUptoCard

/-- THE SECOND FORM's CARD OF 'foldlaw4.LogTwice'. -/
def logTwiceUptoCard : Claim7 := { stood := { row := logTwiceUptoRow, standIns := [], harness := (true, "66cbc7156a3857b9246b4a6f36f9aa610fb894f0f3d4b7096457684d4e6efada"), looks := true }, kinds := [], alts := [], laidByText := true, laidKinds := [.data, .data, .data, .handle], laidTests := true, laidLooks := .later }
def LogTwiceUptoCardSaid : Prop := Claim7.holds Tryd.pinned (.plain (OpenSpec.upto logTwiceSpec)) logTwiceUptoCard
end Rows
end Go.Proofs.YtfehnfbmlomccaaDoor
