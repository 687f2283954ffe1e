/-
  DERIVED. GIVEN WITH THE SEED: THE CARDS: each row of YtecdkdjenkgbfaaDoorRows.lean that lists a variable, with what it lists TIED to the program's text (the seventh form; the later family's looks); each row that meets fmt, with fmt's text TOLD by the authors' own Lean function (tested against real Go, not proved from fmt's source: count such statements apart). THE CARD IS WHAT COUNTS. Prove the row's statement (the work); the ties are given (YtecdkdjenkgbfaaDoorTie.lean); close each card by the builder's one call (the guide's Derived/Test/ToyasCard.lean, 'card_holds'). Laid BY PROGRAM, IN A SANDBOX (cutbox-door.mjs). By AI agents, Wed Nov 11 2026. No macro, syntax, notation, axiom, sorry.
-/
import Derived.Test.YtecdkdjenkgbfaaDoorRows
import GoSem.ClaimSeven
namespace Go.Proofs.YtecdkdjenkgbfaaDoor
namespace Rows

/-- THE TIED CARD OF 'foldtop.TopTurned'. -/
def topTurnedCard : Claim7 := { stood := { row := topTurnedRow, standIns := [], harness := (true, "753b7bcc6b4f0fc3b2ab8fcac4239a858accbe0c194ac27dae278894e3416a24"), looks := true }, kinds := [], alts := [], laidByText := true, laidKinds := [.handle], laidTests := true, laidLooks := .later }
def TopTurnedCardSaid : Prop := Claim7.holds Tryd.pinned (.plain (OpenSpec.ofChange topTurnedSpec)) topTurnedCard

/-- THE TIED CARD OF 'foldlaw1.WindowTells'. -/
def windowTellsCard : Claim7 := { stood := { row := windowTellsRow, standIns := [], harness := (true, "753b7bcc6b4f0fc3b2ab8fcac4239a858accbe0c194ac27dae278894e3416a24"), looks := true }, kinds := [], alts := [], laidByText := true, laidKinds := [.handle], laidTests := true, laidLooks := .later }
def WindowTellsCardSaid : Prop := Claim7.holds Tryd.pinned (.plain (OpenSpec.ofChange windowTellsSpec)) windowTellsCard

/-- THE TIED CARD OF 'foldlaw1.WindowOnce'. -/
def windowOnceCard : Claim7 := { stood := { row := windowOnceRow, standIns := [], harness := (true, "753b7bcc6b4f0fc3b2ab8fcac4239a858accbe0c194ac27dae278894e3416a24"), looks := true }, kinds := [], alts := [], laidByText := true, laidKinds := [.handle], laidTests := true, laidLooks := .later }
def WindowOnceCardSaid : Prop := Claim7.holds Tryd.pinned (.plain (OpenSpec.ofChange windowOnceSpec)) windowOnceCard

/-- THE TIED CARD OF 'foldlaw1.BucketTells'. -/
def bucketTellsCard : Claim7 := { stood := { row := bucketTellsRow, standIns := [], harness := (true, "753b7bcc6b4f0fc3b2ab8fcac4239a858accbe0c194ac27dae278894e3416a24"), looks := true }, kinds := [], alts := [], laidByText := true, laidKinds := [.handle], laidTests := true, laidLooks := .later }
def BucketTellsCardSaid : Prop := Claim7.holds Tryd.pinned (.plain (OpenSpec.ofChange bucketTellsSpec)) bucketTellsCard

/-- THE TIED CARD OF 'foldlaw4.WindowFirst'. -/
def windowFirstCard : Claim7 := { stood := { row := windowFirstRow, standIns := [], harness := (true, "753b7bcc6b4f0fc3b2ab8fcac4239a858accbe0c194ac27dae278894e3416a24"), looks := true }, kinds := [], alts := [], laidByText := true, laidKinds := [.handle], laidTests := true, laidLooks := .later }
def WindowFirstCardSaid : Prop := Claim7.holds Tryd.pinned (.plain (OpenSpec.ofChange windowFirstSpec)) windowFirstCard

/-- THE TIED CARD OF 'foldlaw2.QueueOrders'. -/
def queueOrdersCard : Claim7 := { stood := { row := queueOrdersRow, standIns := [], harness := (true, "753b7bcc6b4f0fc3b2ab8fcac4239a858accbe0c194ac27dae278894e3416a24"), looks := true }, kinds := [], alts := [], laidByText := true, laidKinds := [.handle], laidTests := true, laidLooks := .later }
def QueueOrdersCardSaid : Prop := Claim7.holds Tryd.pinned (.plain (OpenSpec.ofChange queueOrdersSpec)) queueOrdersCard

/-- THE TIED CARD OF 'foldlaw4.RingFirst'. -/
def ringFirstCard : Claim7 := { stood := { row := ringFirstRow, standIns := [], harness := (true, "753b7bcc6b4f0fc3b2ab8fcac4239a858accbe0c194ac27dae278894e3416a24"), looks := true }, kinds := [], alts := [], laidByText := true, laidKinds := [.handle], laidTests := true, laidLooks := .later }
def RingFirstCardSaid : Prop := Claim7.holds Tryd.pinned (.plain (OpenSpec.ofChange ringFirstSpec)) ringFirstCard

/-- THE TIED CARD OF 'foldlaw2.IssuePlays'. -/
def issuePlaysCard : Claim7 := { stood := { row := issuePlaysRow, standIns := [], harness := (true, "753b7bcc6b4f0fc3b2ab8fcac4239a858accbe0c194ac27dae278894e3416a24"), looks := true }, kinds := [], alts := [], laidByText := true, laidKinds := [.handle], laidTests := true, laidLooks := .later }
def IssuePlaysCardSaid : Prop := Claim7.holds Tryd.pinned (.plain (OpenSpec.ofChange issuePlaysSpec)) issuePlaysCard

/-- THE TIED CARD OF 'foldlaw1.RingTells'. -/
def ringTellsCard : Claim7 := { stood := { row := ringTellsRow, standIns := [], harness := (true, "753b7bcc6b4f0fc3b2ab8fcac4239a858accbe0c194ac27dae278894e3416a24"), looks := true }, kinds := [], alts := [], laidByText := true, laidKinds := [.handle], laidTests := true, laidLooks := .later }
def RingTellsCardSaid : Prop := Claim7.holds Tryd.pinned (.plain (OpenSpec.ofChange ringTellsSpec)) ringTellsCard

/-- THE TIED CARD OF 'foldlaw1.RingTwo'. -/
def ringTwoCard : Claim7 := { stood := { row := ringTwoRow, standIns := [], harness := (true, "753b7bcc6b4f0fc3b2ab8fcac4239a858accbe0c194ac27dae278894e3416a24"), looks := true }, kinds := [], alts := [], laidByText := true, laidKinds := [.handle], laidTests := true, laidLooks := .later }
def RingTwoCardSaid : Prop := Claim7.holds Tryd.pinned (.plain (OpenSpec.ofChange ringTwoSpec)) ringTwoCard

/-- THE TIED CARD OF 'foldlaw4.QueueFull'. -/
def queueFullCard : Claim7 := { stood := { row := queueFullRow, standIns := [], harness := (true, "753b7bcc6b4f0fc3b2ab8fcac4239a858accbe0c194ac27dae278894e3416a24"), looks := true }, kinds := [], alts := [], laidByText := true, laidKinds := [.handle], laidTests := true, laidLooks := .later }
def QueueFullCardSaid : Prop := Claim7.holds Tryd.pinned (.plain (OpenSpec.ofChange queueFullSpec)) queueFullCard

/-- THE TIED CARD OF 'foldlaw2.QueuePlays'. -/
def queuePlaysCard : Claim7 := { stood := { row := queuePlaysRow, standIns := [], harness := (true, "753b7bcc6b4f0fc3b2ab8fcac4239a858accbe0c194ac27dae278894e3416a24"), looks := true }, kinds := [], alts := [], laidByText := true, laidKinds := [.handle], laidTests := true, laidLooks := .later }
def QueuePlaysCardSaid : Prop := Claim7.holds Tryd.pinned (.plain (OpenSpec.ofChange queuePlaysSpec)) queuePlaysCard

/-- THE SECOND FORM's CARD OF 'foldtop.TopTurned'. -/
def topTurnedUptoCard : Claim7 := { stood := { row := topTurnedUptoRow, standIns := [], harness := (true, "753b7bcc6b4f0fc3b2ab8fcac4239a858accbe0c194ac27dae278894e3416a24"), looks := true }, kinds := [], alts := [], laidByText := true, laidKinds := [.handle], laidTests := true, laidLooks := .later }
def TopTurnedUptoCardSaid : Prop := Claim7.holds Tryd.pinned (.plain (OpenSpec.upto topTurnedSpec)) topTurnedUptoCard

/-- THE SECOND FORM's CARD OF 'foldlaw1.WindowTells'. -/
def windowTellsUptoCard : Claim7 := { stood := { row := windowTellsUptoRow, standIns := [], harness := (true, "753b7bcc6b4f0fc3b2ab8fcac4239a858accbe0c194ac27dae278894e3416a24"), looks := true }, kinds := [], alts := [], laidByText := true, laidKinds := [.handle], laidTests := true, laidLooks := .later }
def WindowTellsUptoCardSaid : Prop := Claim7.holds Tryd.pinned (.plain (OpenSpec.upto windowTellsSpec)) windowTellsUptoCard

/-- THE SECOND FORM's CARD OF 'foldlaw1.WindowOnce'. -/
def windowOnceUptoCard : Claim7 := { stood := { row := windowOnceUptoRow, standIns := [], harness := (true, "753b7bcc6b4f0fc3b2ab8fcac4239a858accbe0c194ac27dae278894e3416a24"), looks := true }, kinds := [], alts := [], laidByText := true, laidKinds := [.handle], laidTests := true, laidLooks := .later }
def WindowOnceUptoCardSaid : Prop := Claim7.holds Tryd.pinned (.plain (OpenSpec.upto windowOnceSpec)) windowOnceUptoCard

/-- THE SECOND FORM's CARD OF 'foldlaw1.BucketTells'. -/
def bucketTellsUptoCard : Claim7 := { stood := { row := bucketTellsUptoRow, standIns := [], harness := (true, "753b7bcc6b4f0fc3b2ab8fcac4239a858accbe0c194ac27dae278894e3416a24"), looks := true }, kinds := [], alts := [], laidByText := true, laidKinds := [.handle], laidTests := true, laidLooks := .later }
def BucketTellsUptoCardSaid : Prop := Claim7.holds Tryd.pinned (.plain (OpenSpec.upto bucketTellsSpec)) bucketTellsUptoCard

/-- THE SECOND FORM's CARD OF 'foldlaw4.WindowFirst'. -/
def windowFirstUptoCard : Claim7 := { stood := { row := windowFirstUptoRow, standIns := [], harness := (true, "753b7bcc6b4f0fc3b2ab8fcac4239a858accbe0c194ac27dae278894e3416a24"), looks := true }, kinds := [], alts := [], laidByText := true, laidKinds := [.handle], laidTests := true, laidLooks := .later }
def WindowFirstUptoCardSaid : Prop := Claim7.holds Tryd.pinned (.plain (OpenSpec.upto windowFirstSpec)) windowFirstUptoCard

/-- THE SECOND FORM's CARD OF 'foldlaw2.QueueOrders'. -/
def queueOrdersUptoCard : Claim7 := { stood := { row := queueOrdersUptoRow, standIns := [], harness := (true, "753b7bcc6b4f0fc3b2ab8fcac4239a858accbe0c194ac27dae278894e3416a24"), looks := true }, kinds := [], alts := [], laidByText := true, laidKinds := [.handle], laidTests := true, laidLooks := .later }
def QueueOrdersUptoCardSaid : Prop := Claim7.holds Tryd.pinned (.plain (OpenSpec.upto queueOrdersSpec)) queueOrdersUptoCard

/-- THE SECOND FORM's CARD OF 'foldlaw4.RingFirst'. -/
def ringFirstUptoCard : Claim7 := { stood := { row := ringFirstUptoRow, standIns := [], harness := (true, "753b7bcc6b4f0fc3b2ab8fcac4239a858accbe0c194ac27dae278894e3416a24"), looks := true }, kinds := [], alts := [], laidByText := true, laidKinds := [.handle], laidTests := true, laidLooks := .later }
def RingFirstUptoCardSaid : Prop := Claim7.holds Tryd.pinned (.plain (OpenSpec.upto ringFirstSpec)) ringFirstUptoCard

/-- THE SECOND FORM's CARD OF 'foldlaw2.IssuePlays'. -/
def issuePlaysUptoCard : Claim7 := { stood := { row := issuePlaysUptoRow, standIns := [], harness := (true, "753b7bcc6b4f0fc3b2ab8fcac4239a858accbe0c194ac27dae278894e3416a24"), looks := true }, kinds := [], alts := [], laidByText := true, laidKinds := [.handle], laidTests := true, laidLooks := .later }
def IssuePlaysUptoCardSaid : Prop := Claim7.holds Tryd.pinned (.plain (OpenSpec.upto issuePlaysSpec)) issuePlaysUptoCard

/-- THE SECOND FORM's CARD OF 'foldlaw1.RingTells'. -/
def ringTellsUptoCard : Claim7 := { stood := { row := ringTellsUptoRow, standIns := [], harness := (true, "753b7bcc6b4f0fc3b2ab8fcac4239a858accbe0c194ac27dae278894e3416a24"), looks := true }, kinds := [], alts := [], laidByText := true, laidKinds := [.handle], laidTests := true, laidLooks := .later }
def RingTellsUptoCardSaid : Prop := Claim7.holds Tryd.pinned (.plain (OpenSpec.upto ringTellsSpec)) ringTellsUptoCard

/-- THE SECOND FORM's CARD OF 'foldlaw1.RingTwo'. -/
def ringTwoUptoCard : Claim7 := { stood := { row := ringTwoUptoRow, standIns := [], harness := (true, "753b7bcc6b4f0fc3b2ab8fcac4239a858accbe0c194ac27dae278894e3416a24"), looks := true }, kinds := [], alts := [], laidByText := true, laidKinds := [.handle], laidTests := true, laidLooks := .later }
def RingTwoUptoCardSaid : Prop := Claim7.holds Tryd.pinned (.plain (OpenSpec.upto ringTwoSpec)) ringTwoUptoCard

/-- THE SECOND FORM's CARD OF 'foldlaw4.QueueFull'. -/
def queueFullUptoCard : Claim7 := { stood := { row := queueFullUptoRow, standIns := [], harness := (true, "753b7bcc6b4f0fc3b2ab8fcac4239a858accbe0c194ac27dae278894e3416a24"), looks := true }, kinds := [], alts := [], laidByText := true, laidKinds := [.handle], laidTests := true, laidLooks := .later }
def QueueFullUptoCardSaid : Prop := Claim7.holds Tryd.pinned (.plain (OpenSpec.upto queueFullSpec)) queueFullUptoCard

/-- THE SECOND FORM's CARD OF 'foldlaw2.QueuePlays'. -/
def queuePlaysUptoCard : Claim7 := { stood := { row := queuePlaysUptoRow, standIns := [], harness := (true, "753b7bcc6b4f0fc3b2ab8fcac4239a858accbe0c194ac27dae278894e3416a24"), looks := true }, kinds := [], alts := [], laidByText := true, laidKinds := [.handle], laidTests := true, laidLooks := .later }
def QueuePlaysUptoCardSaid : Prop := Claim7.holds Tryd.pinned (.plain (OpenSpec.upto queuePlaysSpec)) queuePlaysUptoCard
end Rows
end Go.Proofs.YtecdkdjenkgbfaaDoor
