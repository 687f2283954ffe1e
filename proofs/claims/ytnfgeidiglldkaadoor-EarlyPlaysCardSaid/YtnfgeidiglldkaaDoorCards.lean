/-
  DERIVED. GIVEN WITH THE SEED: THE CARDS: each row of YtnfgeidiglldkaaDoorRows.lean that lists a variable, with what it lists TIED to the program's text (the seventh form; the later family's looks); each row that meets fmt, with fmt's text TOLD by the authors' own Lean function (tested against real Go, not proved from fmt's source: count such statements apart). THE CARD IS WHAT COUNTS. Prove the row's statement (the work); the ties are given (YtnfgeidiglldkaaDoorTie.lean); close each card by the builder's one call (the guide's Derived/Test/ToyasCard.lean, 'card_holds'). Laid BY PROGRAM, IN A SANDBOX (cutbox-door.mjs). By AI agents, Wed Nov 11 2026. No macro, syntax, notation, axiom, sorry.
-/
import Derived.Test.YtnfgeidiglldkaaDoorRows
import GoSem.ClaimSeven
namespace Go.Proofs.YtnfgeidiglldkaaDoor
namespace Rows

/-- THE TIED CARD OF 'foldlaw1.LifePlays'. -/
def lifePlaysCard : Claim7 := { stood := { row := lifePlaysRow, standIns := [], harness := (true, "8265611b489cbf535c5f2e53dee67a4f554718494a1a978245d5606a07b7d008"), looks := true }, kinds := [], alts := [], laidByText := true, laidKinds := [.handle], laidTests := true, laidLooks := .later }
def LifePlaysCardSaid : Prop := Claim7.holds Tryd.pinned (.plain (OpenSpec.ofChange lifePlaysSpec)) lifePlaysCard

/-- THE TIED CARD OF 'foldlaw2.EarlyBounds'. -/
def earlyBoundsCard : Claim7 := { stood := { row := earlyBoundsRow, standIns := [], harness := (true, "8265611b489cbf535c5f2e53dee67a4f554718494a1a978245d5606a07b7d008"), looks := true }, kinds := [], alts := [], laidByText := true, laidKinds := [.handle], laidTests := true, laidLooks := .later }
def EarlyBoundsCardSaid : Prop := Claim7.holds Tryd.pinned (.plain (OpenSpec.ofChange earlyBoundsSpec)) earlyBoundsCard

/-- THE TIED CARD OF 'foldlaw2.EarlyPlays'. -/
def earlyPlaysCard : Claim7 := { stood := { row := earlyPlaysRow, standIns := [], harness := (true, "8265611b489cbf535c5f2e53dee67a4f554718494a1a978245d5606a07b7d008"), looks := true }, kinds := [], alts := [], laidByText := true, laidKinds := [.handle], laidTests := true, laidLooks := .later }
def EarlyPlaysCardSaid : Prop := Claim7.holds Tryd.pinned (.plain (OpenSpec.ofChange earlyPlaysSpec)) earlyPlaysCard

/-- THE TIED CARD OF 'foldlaw2.LoadTells'. -/
def loadTellsCard : Claim7 := { stood := { row := loadTellsRow, standIns := [], harness := (true, "8265611b489cbf535c5f2e53dee67a4f554718494a1a978245d5606a07b7d008"), looks := true }, kinds := [], alts := [], laidByText := true, laidKinds := [.handle], laidTests := true, laidLooks := .later }
def LoadTellsCardSaid : Prop := Claim7.holds Tryd.pinned (.plain (OpenSpec.ofChange loadTellsSpec)) loadTellsCard

/-- THE TIED CARD OF 'foldlaw1.ConnTells'. -/
def connTellsCard : Claim7 := { stood := { row := connTellsRow, standIns := [], harness := (true, "8265611b489cbf535c5f2e53dee67a4f554718494a1a978245d5606a07b7d008"), looks := true }, kinds := [], alts := [], laidByText := true, laidKinds := [.handle], laidTests := true, laidLooks := .later }
def ConnTellsCardSaid : Prop := Claim7.holds Tryd.pinned (.plain (OpenSpec.ofChange connTellsSpec)) connTellsCard

/-- THE TIED CARD OF 'foldlaw1.ResetTells'. -/
def resetTellsCard : Claim7 := { stood := { row := resetTellsRow, standIns := [], harness := (true, "8265611b489cbf535c5f2e53dee67a4f554718494a1a978245d5606a07b7d008"), looks := true }, kinds := [], alts := [], laidByText := true, laidKinds := [.handle], laidTests := true, laidLooks := .later }
def ResetTellsCardSaid : Prop := Claim7.holds Tryd.pinned (.plain (OpenSpec.ofChange resetTellsSpec)) resetTellsCard

/-- THE TIED CARD OF 'foldlaw1.TagTells'. -/
def tagTellsCard : Claim7 := { stood := { row := tagTellsRow, standIns := [], harness := (true, "8265611b489cbf535c5f2e53dee67a4f554718494a1a978245d5606a07b7d008"), looks := true }, kinds := [], alts := [], laidByText := true, laidKinds := [.handle], laidTests := true, laidLooks := .later }
def TagTellsCardSaid : Prop := Claim7.holds Tryd.pinned (.plain (OpenSpec.ofChange tagTellsSpec)) tagTellsCard

/-- THE SECOND FORM's CARD OF 'foldlaw1.LifePlays'. -/
def lifePlaysUptoCard : Claim7 := { stood := { row := lifePlaysUptoRow, standIns := [], harness := (true, "8265611b489cbf535c5f2e53dee67a4f554718494a1a978245d5606a07b7d008"), looks := true }, kinds := [], alts := [], laidByText := true, laidKinds := [.handle], laidTests := true, laidLooks := .later }
def LifePlaysUptoCardSaid : Prop := Claim7.holds Tryd.pinned (.plain (OpenSpec.upto lifePlaysSpec)) lifePlaysUptoCard

/-- THE SECOND FORM's CARD OF 'foldlaw2.EarlyBounds'. -/
def earlyBoundsUptoCard : Claim7 := { stood := { row := earlyBoundsUptoRow, standIns := [], harness := (true, "8265611b489cbf535c5f2e53dee67a4f554718494a1a978245d5606a07b7d008"), looks := true }, kinds := [], alts := [], laidByText := true, laidKinds := [.handle], laidTests := true, laidLooks := .later }
def EarlyBoundsUptoCardSaid : Prop := Claim7.holds Tryd.pinned (.plain (OpenSpec.upto earlyBoundsSpec)) earlyBoundsUptoCard

/-- THE SECOND FORM's CARD OF 'foldlaw2.EarlyPlays'. -/
def earlyPlaysUptoCard : Claim7 := { stood := { row := earlyPlaysUptoRow, standIns := [], harness := (true, "8265611b489cbf535c5f2e53dee67a4f554718494a1a978245d5606a07b7d008"), looks := true }, kinds := [], alts := [], laidByText := true, laidKinds := [.handle], laidTests := true, laidLooks := .later }
def EarlyPlaysUptoCardSaid : Prop := Claim7.holds Tryd.pinned (.plain (OpenSpec.upto earlyPlaysSpec)) earlyPlaysUptoCard

/-- THE SECOND FORM's CARD OF 'foldlaw2.LoadTells'. -/
def loadTellsUptoCard : Claim7 := { stood := { row := loadTellsUptoRow, standIns := [], harness := (true, "8265611b489cbf535c5f2e53dee67a4f554718494a1a978245d5606a07b7d008"), looks := true }, kinds := [], alts := [], laidByText := true, laidKinds := [.handle], laidTests := true, laidLooks := .later }
def LoadTellsUptoCardSaid : Prop := Claim7.holds Tryd.pinned (.plain (OpenSpec.upto loadTellsSpec)) loadTellsUptoCard

/-- THE SECOND FORM's CARD OF 'foldlaw1.ConnTells'. -/
def connTellsUptoCard : Claim7 := { stood := { row := connTellsUptoRow, standIns := [], harness := (true, "8265611b489cbf535c5f2e53dee67a4f554718494a1a978245d5606a07b7d008"), looks := true }, kinds := [], alts := [], laidByText := true, laidKinds := [.handle], laidTests := true, laidLooks := .later }
def ConnTellsUptoCardSaid : Prop := Claim7.holds Tryd.pinned (.plain (OpenSpec.upto connTellsSpec)) connTellsUptoCard

/-- THE SECOND FORM's CARD OF 'foldlaw1.ResetTells'. -/
def resetTellsUptoCard : Claim7 := { stood := { row := resetTellsUptoRow, standIns := [], harness := (true, "8265611b489cbf535c5f2e53dee67a4f554718494a1a978245d5606a07b7d008"), looks := true }, kinds := [], alts := [], laidByText := true, laidKinds := [.handle], laidTests := true, laidLooks := .later }
def ResetTellsUptoCardSaid : Prop := Claim7.holds Tryd.pinned (.plain (OpenSpec.upto resetTellsSpec)) resetTellsUptoCard

/-- THE SECOND FORM's CARD OF 'foldlaw1.TagTells'. -/
def tagTellsUptoCard : Claim7 := { stood := { row := tagTellsUptoRow, standIns := [], harness := (true, "8265611b489cbf535c5f2e53dee67a4f554718494a1a978245d5606a07b7d008"), looks := true }, kinds := [], alts := [], laidByText := true, laidKinds := [.handle], laidTests := true, laidLooks := .later }
def TagTellsUptoCardSaid : Prop := Claim7.holds Tryd.pinned (.plain (OpenSpec.upto tagTellsSpec)) tagTellsUptoCard
end Rows
end Go.Proofs.YtnfgeidiglldkaaDoor
