/-
  DERIVED. GIVEN WITH THE SEED: THE CARDS: each row of YtelegodagepeeaaDoorRows.lean that lists a variable, with what it lists TIED to the program's text (the seventh form; the later family's looks); each row that meets fmt, with fmt's text TOLD by the authors' own Lean function (tested against real Go, not proved from fmt's source: count such statements apart). THE CARD IS WHAT COUNTS. Prove the row's statement (the work); the ties are given (YtelegodagepeeaaDoorTie.lean); close each card by the builder's one call (the guide's Derived/Test/ToyasCard.lean, 'card_holds'). Laid BY PROGRAM, IN A SANDBOX (cutbox-door.mjs). By AI agents, Wed Nov 11 2026. No macro, syntax, notation, axiom, sorry.
-/
import Derived.Test.YtelegodagepeeaaDoorRows
import GoSem.ClaimSeven
namespace Go.Proofs.YtelegodagepeeaaDoor
namespace Rows

/-- THE TIED CARD OF 'foldlaw1.WindowTells'. -/
def windowTellsCard : Claim7 := { stood := { row := windowTellsRow, standIns := [], harness := (true, "717333348b0eab75361b2d210cd44647e8ffd35a39ac41077bbb5e80de9484cc"), looks := true }, kinds := [], alts := [], laidByText := true, laidKinds := [.handle], laidTests := true, laidLooks := .later }
def WindowTellsCardSaid : Prop := Claim7.holds Tryd.pinned (.plain (OpenSpec.ofChange windowTellsSpec)) windowTellsCard

/-- THE TIED CARD OF 'foldlaw1.WindowOnce'. -/
def windowOnceCard : Claim7 := { stood := { row := windowOnceRow, standIns := [], harness := (true, "717333348b0eab75361b2d210cd44647e8ffd35a39ac41077bbb5e80de9484cc"), looks := true }, kinds := [], alts := [], laidByText := true, laidKinds := [.handle], laidTests := true, laidLooks := .later }
def WindowOnceCardSaid : Prop := Claim7.holds Tryd.pinned (.plain (OpenSpec.ofChange windowOnceSpec)) windowOnceCard

/-- THE TIED CARD OF 'foldlaw2.QueueOrders'. -/
def queueOrdersCard : Claim7 := { stood := { row := queueOrdersRow, standIns := [], harness := (true, "717333348b0eab75361b2d210cd44647e8ffd35a39ac41077bbb5e80de9484cc"), looks := true }, kinds := [], alts := [], laidByText := true, laidKinds := [.handle], laidTests := true, laidLooks := .later }
def QueueOrdersCardSaid : Prop := Claim7.holds Tryd.pinned (.plain (OpenSpec.ofChange queueOrdersSpec)) queueOrdersCard

/-- THE TIED CARD OF 'foldlaw2.IssuePlays'. -/
def issuePlaysCard : Claim7 := { stood := { row := issuePlaysRow, standIns := [], harness := (true, "717333348b0eab75361b2d210cd44647e8ffd35a39ac41077bbb5e80de9484cc"), looks := true }, kinds := [], alts := [], laidByText := true, laidKinds := [.handle], laidTests := true, laidLooks := .later }
def IssuePlaysCardSaid : Prop := Claim7.holds Tryd.pinned (.plain (OpenSpec.ofChange issuePlaysSpec)) issuePlaysCard

/-- THE TIED CARD OF 'foldlaw1.RingTwo'. -/
def ringTwoCard : Claim7 := { stood := { row := ringTwoRow, standIns := [], harness := (true, "717333348b0eab75361b2d210cd44647e8ffd35a39ac41077bbb5e80de9484cc"), looks := true }, kinds := [], alts := [], laidByText := true, laidKinds := [.handle], laidTests := true, laidLooks := .later }
def RingTwoCardSaid : Prop := Claim7.holds Tryd.pinned (.plain (OpenSpec.ofChange ringTwoSpec)) ringTwoCard

/-- THE TIED CARD OF 'foldlaw4.QueueFull'. -/
def queueFullCard : Claim7 := { stood := { row := queueFullRow, standIns := [], harness := (true, "717333348b0eab75361b2d210cd44647e8ffd35a39ac41077bbb5e80de9484cc"), looks := true }, kinds := [], alts := [], laidByText := true, laidKinds := [.handle], laidTests := true, laidLooks := .later }
def QueueFullCardSaid : Prop := Claim7.holds Tryd.pinned (.plain (OpenSpec.ofChange queueFullSpec)) queueFullCard

/-- THE TIED CARD OF 'foldlaw1.TokenTells'. -/
def tokenTellsCard : Claim7 := { stood := { row := tokenTellsRow, standIns := [], harness := (true, "717333348b0eab75361b2d210cd44647e8ffd35a39ac41077bbb5e80de9484cc"), looks := true }, kinds := [], alts := [], laidByText := true, laidKinds := [.handle], laidTests := true, laidLooks := .later }
def TokenTellsCardSaid : Prop := Claim7.holds Tryd.pinned (.plain (OpenSpec.ofChange tokenTellsSpec)) tokenTellsCard

/-- THE TIED CARD OF 'foldlaw4.TokenNow'. -/
def tokenNowCard : Claim7 := { stood := { row := tokenNowRow, standIns := [], harness := (true, "717333348b0eab75361b2d210cd44647e8ffd35a39ac41077bbb5e80de9484cc"), looks := true }, kinds := [], alts := [], laidByText := true, laidKinds := [.handle], laidTests := true, laidLooks := .later }
def TokenNowCardSaid : Prop := Claim7.holds Tryd.pinned (.plain (OpenSpec.ofChange tokenNowSpec)) tokenNowCard

/-- THE TIED CARD OF 'foldlaw1.TicketTells'. -/
def ticketTellsCard : Claim7 := { stood := { row := ticketTellsRow, standIns := [], harness := (true, "717333348b0eab75361b2d210cd44647e8ffd35a39ac41077bbb5e80de9484cc"), looks := true }, kinds := [], alts := [], laidByText := true, laidKinds := [.handle], laidTests := true, laidLooks := .later }
def TicketTellsCardSaid : Prop := Claim7.holds Tryd.pinned (.plain (OpenSpec.ofChange ticketTellsSpec)) ticketTellsCard

/-- THE TIED CARD OF 'foldlaw2.QueuePlays'. -/
def queuePlaysCard : Claim7 := { stood := { row := queuePlaysRow, standIns := [], harness := (true, "717333348b0eab75361b2d210cd44647e8ffd35a39ac41077bbb5e80de9484cc"), looks := true }, kinds := [], alts := [], laidByText := true, laidKinds := [.handle], laidTests := true, laidLooks := .later }
def QueuePlaysCardSaid : Prop := Claim7.holds Tryd.pinned (.plain (OpenSpec.ofChange queuePlaysSpec)) queuePlaysCard

/-- THE TIED CARD OF 'foldlaw1.TicketHolds'. -/
def ticketHoldsCard : Claim7 := { stood := { row := ticketHoldsRow, standIns := [], harness := (true, "717333348b0eab75361b2d210cd44647e8ffd35a39ac41077bbb5e80de9484cc"), looks := true }, kinds := [], alts := [], laidByText := true, laidKinds := [.handle], laidTests := true, laidLooks := .later }
def TicketHoldsCardSaid : Prop := Claim7.holds Tryd.pinned (.plain (OpenSpec.ofChange ticketHoldsSpec)) ticketHoldsCard

/-- THE TIED CARD OF 'foldlaw1.TokenHolds'. -/
def tokenHoldsCard : Claim7 := { stood := { row := tokenHoldsRow, standIns := [], harness := (true, "717333348b0eab75361b2d210cd44647e8ffd35a39ac41077bbb5e80de9484cc"), looks := true }, kinds := [], alts := [], laidByText := true, laidKinds := [.handle], laidTests := true, laidLooks := .later }
def TokenHoldsCardSaid : Prop := Claim7.holds Tryd.pinned (.plain (OpenSpec.ofChange tokenHoldsSpec)) tokenHoldsCard

/-- THE SECOND FORM's CARD OF 'foldlaw1.WindowTells'. -/
def windowTellsUptoCard : Claim7 := { stood := { row := windowTellsUptoRow, standIns := [], harness := (true, "717333348b0eab75361b2d210cd44647e8ffd35a39ac41077bbb5e80de9484cc"), looks := true }, kinds := [], alts := [], laidByText := true, laidKinds := [.handle], laidTests := true, laidLooks := .later }
def WindowTellsUptoCardSaid : Prop := Claim7.holds Tryd.pinned (.plain (OpenSpec.upto windowTellsSpec)) windowTellsUptoCard

/-- THE SECOND FORM's CARD OF 'foldlaw1.WindowOnce'. -/
def windowOnceUptoCard : Claim7 := { stood := { row := windowOnceUptoRow, standIns := [], harness := (true, "717333348b0eab75361b2d210cd44647e8ffd35a39ac41077bbb5e80de9484cc"), looks := true }, kinds := [], alts := [], laidByText := true, laidKinds := [.handle], laidTests := true, laidLooks := .later }
def WindowOnceUptoCardSaid : Prop := Claim7.holds Tryd.pinned (.plain (OpenSpec.upto windowOnceSpec)) windowOnceUptoCard

/-- THE SECOND FORM's CARD OF 'foldlaw2.QueueOrders'. -/
def queueOrdersUptoCard : Claim7 := { stood := { row := queueOrdersUptoRow, standIns := [], harness := (true, "717333348b0eab75361b2d210cd44647e8ffd35a39ac41077bbb5e80de9484cc"), looks := true }, kinds := [], alts := [], laidByText := true, laidKinds := [.handle], laidTests := true, laidLooks := .later }
def QueueOrdersUptoCardSaid : Prop := Claim7.holds Tryd.pinned (.plain (OpenSpec.upto queueOrdersSpec)) queueOrdersUptoCard

/-- THE SECOND FORM's CARD OF 'foldlaw2.IssuePlays'. -/
def issuePlaysUptoCard : Claim7 := { stood := { row := issuePlaysUptoRow, standIns := [], harness := (true, "717333348b0eab75361b2d210cd44647e8ffd35a39ac41077bbb5e80de9484cc"), looks := true }, kinds := [], alts := [], laidByText := true, laidKinds := [.handle], laidTests := true, laidLooks := .later }
def IssuePlaysUptoCardSaid : Prop := Claim7.holds Tryd.pinned (.plain (OpenSpec.upto issuePlaysSpec)) issuePlaysUptoCard

/-- THE SECOND FORM's CARD OF 'foldlaw1.RingTwo'. -/
def ringTwoUptoCard : Claim7 := { stood := { row := ringTwoUptoRow, standIns := [], harness := (true, "717333348b0eab75361b2d210cd44647e8ffd35a39ac41077bbb5e80de9484cc"), looks := true }, kinds := [], alts := [], laidByText := true, laidKinds := [.handle], laidTests := true, laidLooks := .later }
def RingTwoUptoCardSaid : Prop := Claim7.holds Tryd.pinned (.plain (OpenSpec.upto ringTwoSpec)) ringTwoUptoCard

/-- THE SECOND FORM's CARD OF 'foldlaw4.QueueFull'. -/
def queueFullUptoCard : Claim7 := { stood := { row := queueFullUptoRow, standIns := [], harness := (true, "717333348b0eab75361b2d210cd44647e8ffd35a39ac41077bbb5e80de9484cc"), looks := true }, kinds := [], alts := [], laidByText := true, laidKinds := [.handle], laidTests := true, laidLooks := .later }
def QueueFullUptoCardSaid : Prop := Claim7.holds Tryd.pinned (.plain (OpenSpec.upto queueFullSpec)) queueFullUptoCard

/-- THE SECOND FORM's CARD OF 'foldlaw1.TokenTells'. -/
def tokenTellsUptoCard : Claim7 := { stood := { row := tokenTellsUptoRow, standIns := [], harness := (true, "717333348b0eab75361b2d210cd44647e8ffd35a39ac41077bbb5e80de9484cc"), looks := true }, kinds := [], alts := [], laidByText := true, laidKinds := [.handle], laidTests := true, laidLooks := .later }
def TokenTellsUptoCardSaid : Prop := Claim7.holds Tryd.pinned (.plain (OpenSpec.upto tokenTellsSpec)) tokenTellsUptoCard

/-- THE SECOND FORM's CARD OF 'foldlaw4.TokenNow'. -/
def tokenNowUptoCard : Claim7 := { stood := { row := tokenNowUptoRow, standIns := [], harness := (true, "717333348b0eab75361b2d210cd44647e8ffd35a39ac41077bbb5e80de9484cc"), looks := true }, kinds := [], alts := [], laidByText := true, laidKinds := [.handle], laidTests := true, laidLooks := .later }
def TokenNowUptoCardSaid : Prop := Claim7.holds Tryd.pinned (.plain (OpenSpec.upto tokenNowSpec)) tokenNowUptoCard

/-- THE SECOND FORM's CARD OF 'foldlaw1.TicketTells'. -/
def ticketTellsUptoCard : Claim7 := { stood := { row := ticketTellsUptoRow, standIns := [], harness := (true, "717333348b0eab75361b2d210cd44647e8ffd35a39ac41077bbb5e80de9484cc"), looks := true }, kinds := [], alts := [], laidByText := true, laidKinds := [.handle], laidTests := true, laidLooks := .later }
def TicketTellsUptoCardSaid : Prop := Claim7.holds Tryd.pinned (.plain (OpenSpec.upto ticketTellsSpec)) ticketTellsUptoCard

/-- THE SECOND FORM's CARD OF 'foldlaw2.QueuePlays'. -/
def queuePlaysUptoCard : Claim7 := { stood := { row := queuePlaysUptoRow, standIns := [], harness := (true, "717333348b0eab75361b2d210cd44647e8ffd35a39ac41077bbb5e80de9484cc"), looks := true }, kinds := [], alts := [], laidByText := true, laidKinds := [.handle], laidTests := true, laidLooks := .later }
def QueuePlaysUptoCardSaid : Prop := Claim7.holds Tryd.pinned (.plain (OpenSpec.upto queuePlaysSpec)) queuePlaysUptoCard

/-- THE SECOND FORM's CARD OF 'foldlaw1.TicketHolds'. -/
def ticketHoldsUptoCard : Claim7 := { stood := { row := ticketHoldsUptoRow, standIns := [], harness := (true, "717333348b0eab75361b2d210cd44647e8ffd35a39ac41077bbb5e80de9484cc"), looks := true }, kinds := [], alts := [], laidByText := true, laidKinds := [.handle], laidTests := true, laidLooks := .later }
def TicketHoldsUptoCardSaid : Prop := Claim7.holds Tryd.pinned (.plain (OpenSpec.upto ticketHoldsSpec)) ticketHoldsUptoCard

/-- THE SECOND FORM's CARD OF 'foldlaw1.TokenHolds'. -/
def tokenHoldsUptoCard : Claim7 := { stood := { row := tokenHoldsUptoRow, standIns := [], harness := (true, "717333348b0eab75361b2d210cd44647e8ffd35a39ac41077bbb5e80de9484cc"), looks := true }, kinds := [], alts := [], laidByText := true, laidKinds := [.handle], laidTests := true, laidLooks := .later }
def TokenHoldsUptoCardSaid : Prop := Claim7.holds Tryd.pinned (.plain (OpenSpec.upto tokenHoldsSpec)) tokenHoldsUptoCard
end Rows
end Go.Proofs.YtelegodagepeeaaDoor
