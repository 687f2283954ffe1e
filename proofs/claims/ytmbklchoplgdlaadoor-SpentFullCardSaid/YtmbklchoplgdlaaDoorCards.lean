/-
  DERIVED. GIVEN WITH THE SEED: THE CARDS: each row of YtmbklchoplgdlaaDoorRows.lean that lists a variable, with what it lists TIED to the program's text (the seventh form; the later family's looks); each row that meets fmt, with fmt's text TOLD by the authors' own Lean function (tested against real Go, not proved from fmt's source: count such statements apart). THE CARD IS WHAT COUNTS. Prove the row's statement (the work); the ties are given (YtmbklchoplgdlaaDoorTie.lean); close each card by the builder's one call (the guide's Derived/Test/ToyasCard.lean, 'card_holds'). Laid BY PROGRAM, IN A SANDBOX (cutbox-door.mjs). By AI agents, Wed Nov 11 2026. No macro, syntax, notation, axiom, sorry.
-/
import Derived.Test.YtmbklchoplgdlaaDoorRows
import GoSem.ClaimSeven
namespace Go.Proofs.YtmbklchoplgdlaaDoor
namespace Rows

/-- THE TIED CARD OF 'foldtop.TopTurned'. -/
def topTurnedCard : Claim7 := { stood := { row := topTurnedRow, standIns := [], harness := (true, "d321070356eeb76930208d1db7e91ed5b82f40414b7cdbae53513b535e837e46"), looks := true }, kinds := [], alts := [], laidByText := true, laidKinds := [.handle], laidTests := true, laidLooks := .later }
def TopTurnedCardSaid : Prop := Claim7.holds Tryd.pinned (.plain (OpenSpec.ofChange topTurnedSpec)) topTurnedCard

/-- THE TIED CARD OF 'foldlaw2.VaultSure'. -/
def vaultSureCard : Claim7 := { stood := { row := vaultSureRow, standIns := [], harness := (true, "d321070356eeb76930208d1db7e91ed5b82f40414b7cdbae53513b535e837e46"), looks := true }, kinds := [], alts := [], laidByText := true, laidKinds := [.handle], laidTests := true, laidLooks := .later }
def VaultSureCardSaid : Prop := Claim7.holds Tryd.pinned (.plain (OpenSpec.ofChange vaultSureSpec)) vaultSureCard

/-- THE TIED CARD OF 'foldlaw2.VaultPlays'. -/
def vaultPlaysCard : Claim7 := { stood := { row := vaultPlaysRow, standIns := [], harness := (true, "d321070356eeb76930208d1db7e91ed5b82f40414b7cdbae53513b535e837e46"), looks := true }, kinds := [], alts := [], laidByText := true, laidKinds := [.handle], laidTests := true, laidLooks := .later }
def VaultPlaysCardSaid : Prop := Claim7.holds Tryd.pinned (.plain (OpenSpec.ofChange vaultPlaysSpec)) vaultPlaysCard

/-- THE TIED CARD OF 'foldlaw4.SpentFull'. -/
def spentFullCard : Claim7 := { stood := { row := spentFullRow, standIns := [], harness := (true, "d321070356eeb76930208d1db7e91ed5b82f40414b7cdbae53513b535e837e46"), looks := true }, kinds := [], alts := [], laidByText := true, laidKinds := [.handle], laidTests := true, laidLooks := .later }
def SpentFullCardSaid : Prop := Claim7.holds Tryd.pinned (.plain (OpenSpec.ofChange spentFullSpec)) spentFullCard

/-- THE TIED CARD OF 'foldlaw1.SpentTells'. -/
def spentTellsCard : Claim7 := { stood := { row := spentTellsRow, standIns := [], harness := (true, "d321070356eeb76930208d1db7e91ed5b82f40414b7cdbae53513b535e837e46"), looks := true }, kinds := [], alts := [], laidByText := true, laidKinds := [.handle], laidTests := true, laidLooks := .later }
def SpentTellsCardSaid : Prop := Claim7.holds Tryd.pinned (.plain (OpenSpec.ofChange spentTellsSpec)) spentTellsCard

/-- THE TIED CARD OF 'foldlaw1.SpentOnce'. -/
def spentOnceCard : Claim7 := { stood := { row := spentOnceRow, standIns := [], harness := (true, "d321070356eeb76930208d1db7e91ed5b82f40414b7cdbae53513b535e837e46"), looks := true }, kinds := [], alts := [], laidByText := true, laidKinds := [.handle], laidTests := true, laidLooks := .later }
def SpentOnceCardSaid : Prop := Claim7.holds Tryd.pinned (.plain (OpenSpec.ofChange spentOnceSpec)) spentOnceCard

/-- THE TIED CARD OF 'foldlaw2.JudgeTells'. -/
def judgeTellsCard : Claim7 := { stood := { row := judgeTellsRow, standIns := [], harness := (true, "d321070356eeb76930208d1db7e91ed5b82f40414b7cdbae53513b535e837e46"), looks := true }, kinds := [], alts := [], laidByText := true, laidKinds := [.handle], laidTests := true, laidLooks := .later }
def JudgeTellsCardSaid : Prop := Claim7.holds Tryd.pinned (.plain (OpenSpec.ofChange judgeTellsSpec)) judgeTellsCard

/-- THE SECOND FORM's CARD OF 'foldtop.TopTurned'. -/
def topTurnedUptoCard : Claim7 := { stood := { row := topTurnedUptoRow, standIns := [], harness := (true, "d321070356eeb76930208d1db7e91ed5b82f40414b7cdbae53513b535e837e46"), looks := true }, kinds := [], alts := [], laidByText := true, laidKinds := [.handle], laidTests := true, laidLooks := .later }
def TopTurnedUptoCardSaid : Prop := Claim7.holds Tryd.pinned (.plain (OpenSpec.upto topTurnedSpec)) topTurnedUptoCard

/-- THE SECOND FORM's CARD OF 'foldlaw2.VaultSure'. -/
def vaultSureUptoCard : Claim7 := { stood := { row := vaultSureUptoRow, standIns := [], harness := (true, "d321070356eeb76930208d1db7e91ed5b82f40414b7cdbae53513b535e837e46"), looks := true }, kinds := [], alts := [], laidByText := true, laidKinds := [.handle], laidTests := true, laidLooks := .later }
def VaultSureUptoCardSaid : Prop := Claim7.holds Tryd.pinned (.plain (OpenSpec.upto vaultSureSpec)) vaultSureUptoCard

/-- THE SECOND FORM's CARD OF 'foldlaw2.VaultPlays'. -/
def vaultPlaysUptoCard : Claim7 := { stood := { row := vaultPlaysUptoRow, standIns := [], harness := (true, "d321070356eeb76930208d1db7e91ed5b82f40414b7cdbae53513b535e837e46"), looks := true }, kinds := [], alts := [], laidByText := true, laidKinds := [.handle], laidTests := true, laidLooks := .later }
def VaultPlaysUptoCardSaid : Prop := Claim7.holds Tryd.pinned (.plain (OpenSpec.upto vaultPlaysSpec)) vaultPlaysUptoCard

/-- THE SECOND FORM's CARD OF 'foldlaw4.SpentFull'. -/
def spentFullUptoCard : Claim7 := { stood := { row := spentFullUptoRow, standIns := [], harness := (true, "d321070356eeb76930208d1db7e91ed5b82f40414b7cdbae53513b535e837e46"), looks := true }, kinds := [], alts := [], laidByText := true, laidKinds := [.handle], laidTests := true, laidLooks := .later }
def SpentFullUptoCardSaid : Prop := Claim7.holds Tryd.pinned (.plain (OpenSpec.upto spentFullSpec)) spentFullUptoCard

/-- THE SECOND FORM's CARD OF 'foldlaw1.SpentTells'. -/
def spentTellsUptoCard : Claim7 := { stood := { row := spentTellsUptoRow, standIns := [], harness := (true, "d321070356eeb76930208d1db7e91ed5b82f40414b7cdbae53513b535e837e46"), looks := true }, kinds := [], alts := [], laidByText := true, laidKinds := [.handle], laidTests := true, laidLooks := .later }
def SpentTellsUptoCardSaid : Prop := Claim7.holds Tryd.pinned (.plain (OpenSpec.upto spentTellsSpec)) spentTellsUptoCard

/-- THE SECOND FORM's CARD OF 'foldlaw1.SpentOnce'. -/
def spentOnceUptoCard : Claim7 := { stood := { row := spentOnceUptoRow, standIns := [], harness := (true, "d321070356eeb76930208d1db7e91ed5b82f40414b7cdbae53513b535e837e46"), looks := true }, kinds := [], alts := [], laidByText := true, laidKinds := [.handle], laidTests := true, laidLooks := .later }
def SpentOnceUptoCardSaid : Prop := Claim7.holds Tryd.pinned (.plain (OpenSpec.upto spentOnceSpec)) spentOnceUptoCard

/-- THE SECOND FORM's CARD OF 'foldlaw2.JudgeTells'. -/
def judgeTellsUptoCard : Claim7 := { stood := { row := judgeTellsUptoRow, standIns := [], harness := (true, "d321070356eeb76930208d1db7e91ed5b82f40414b7cdbae53513b535e837e46"), looks := true }, kinds := [], alts := [], laidByText := true, laidKinds := [.handle], laidTests := true, laidLooks := .later }
def JudgeTellsUptoCardSaid : Prop := Claim7.holds Tryd.pinned (.plain (OpenSpec.upto judgeTellsSpec)) judgeTellsUptoCard
end Rows
end Go.Proofs.YtmbklchoplgdlaaDoor
