/-
  No cell of these rows narrows 'for every input' (looked for: loops, veiled, ifaces, maps, wideKeys, modest, calm, conditions, laid).
  DERIVED. THE GIVEN ROWS OF THIS SEAT. 12 by the template 'for every input the law returns true; each argument reads behind the call as it read before'; 0 by the template 'total and deterministic' (their statements: YthfnjgiaimhbiaaTotals.lean).
  GIVEN WITH THE SEED: the statements are not yours to turn. If you find one false, say at which input.
  Laid BY PROGRAM, IN A SANDBOX (cutbox-rows.mjs): the forced cells as the released guide's own fill.sh prints them over the translation c274d99e74bc07cd… (all of the seat's roots in one cut). By AI agents, Wed Nov 11 2026. No macro, syntax, notation, axiom, sorry.
-/
import Derived.Test.YthfnjgiaimhbiaaChecked
import GoSem.Claim
import GoSem.ClaimJoined
import GoSem.ClaimMapViews
import Derived.JoinedTies
import Derived.KernelRfl
namespace Go.Proofs.Ythfnjgiaimhbiaa
/- THE CELL 'sum', in the pinned program and in every row, IS THE sha256 OF THE DUMP (.gsa) THAT YthfnjgiaimhbiaaProg.lean LOADS. Nothing in Lean hashes anything: it is a label: what it is worth is what the hold of that sum in a sandbox is worth. -/
noncomputable def Try.pinned : Pinned := { name := "ythfnjgiaimhbiaa", sum := "c274d99e74bc07cddbd05f24d257d0a039c44129d9b5147c2ef7ea274c3c05e0", checked := Try.checked }
namespace Rows
def none {H : Type} : Left H := { results := [], args := [] }

/-- 'foldlaw4.BlockEight': WHATEVER THE INPUT: true; the input reads as it did. -/
def blockEightSpec : ChangeSpec := { name := "blockEight", fn := fun _ => fun
  | [d] => { results := [.lit (.bool true)], args := [d] }
  | _ => none }
def blockEightRow : OpenClaim := { program := "ythfnjgiaimhbiaa", sum := "c274d99e74bc07cddbd05f24d257d0a039c44129d9b5147c2ef7ea274c3c05e0", func := "tokenfold/foldlaw4.BlockEight", spec := "blockEight", apart := false }
def BlockEightSaid : Prop := blockEightRow.holds Try.pinned (OpenSpec.ofChange blockEightSpec)

/-- ITS FALSE NEIGHBOUR: 'it returns false'. Refute it at one input. -/
def blockEightWrong : ChangeSpec := { name := "blockEight", fn := fun _ => fun
  | [d] => { results := [.lit (.bool false)], args := [d] }
  | _ => none }
def BlockEightWrongFalsely : Prop := blockEightRow.holds Try.pinned (OpenSpec.ofChange blockEightWrong)

/-- 'foldlaw4.LifeMany': WHATEVER THE INPUT: true; the input reads as it did. -/
def lifeManySpec : ChangeSpec := { name := "lifeMany", fn := fun _ => fun
  | [d] => { results := [.lit (.bool true)], args := [d] }
  | _ => none }
def lifeManyRow : OpenClaim := { program := "ythfnjgiaimhbiaa", sum := "c274d99e74bc07cddbd05f24d257d0a039c44129d9b5147c2ef7ea274c3c05e0", func := "tokenfold/foldlaw4.LifeMany", spec := "lifeMany", apart := false }
def LifeManySaid : Prop := lifeManyRow.holds Try.pinned (OpenSpec.ofChange lifeManySpec)

/-- ITS FALSE NEIGHBOUR: 'it returns false'. Refute it at one input. -/
def lifeManyWrong : ChangeSpec := { name := "lifeMany", fn := fun _ => fun
  | [d] => { results := [.lit (.bool false)], args := [d] }
  | _ => none }
def LifeManyWrongFalsely : Prop := lifeManyRow.holds Try.pinned (OpenSpec.ofChange lifeManyWrong)

/-- 'foldlaw4.EarlyNone': WHATEVER THE INPUT: true; the input reads as it did. -/
def earlyNoneSpec : ChangeSpec := { name := "earlyNone", fn := fun _ => fun
  | [d] => { results := [.lit (.bool true)], args := [d] }
  | _ => none }
def earlyNoneRow : OpenClaim := { program := "ythfnjgiaimhbiaa", sum := "c274d99e74bc07cddbd05f24d257d0a039c44129d9b5147c2ef7ea274c3c05e0", func := "tokenfold/foldlaw4.EarlyNone", spec := "earlyNone", apart := false }
def EarlyNoneSaid : Prop := earlyNoneRow.holds Try.pinned (OpenSpec.ofChange earlyNoneSpec)

/-- ITS FALSE NEIGHBOUR: 'it returns false'. Refute it at one input. -/
def earlyNoneWrong : ChangeSpec := { name := "earlyNone", fn := fun _ => fun
  | [d] => { results := [.lit (.bool false)], args := [d] }
  | _ => none }
def EarlyNoneWrongFalsely : Prop := earlyNoneRow.holds Try.pinned (OpenSpec.ofChange earlyNoneWrong)

/-- 'foldlaw4.TagNone': WHATEVER THE INPUT: true; the input reads as it did. -/
def tagNoneSpec : ChangeSpec := { name := "tagNone", fn := fun _ => fun
  | [d1, d2] => { results := [.lit (.bool true)], args := [d1, d2] }
  | _ => none }
def tagNoneRow : OpenClaim := { program := "ythfnjgiaimhbiaa", sum := "c274d99e74bc07cddbd05f24d257d0a039c44129d9b5147c2ef7ea274c3c05e0", func := "tokenfold/foldlaw4.TagNone", spec := "tagNone", apart := false }
def TagNoneSaid : Prop := tagNoneRow.holds Try.pinned (OpenSpec.ofChange tagNoneSpec)

/-- ITS FALSE NEIGHBOUR: 'it returns false'. Refute it at one input. -/
def tagNoneWrong : ChangeSpec := { name := "tagNone", fn := fun _ => fun
  | [d1, d2] => { results := [.lit (.bool false)], args := [d1, d2] }
  | _ => none }
def TagNoneWrongFalsely : Prop := tagNoneRow.holds Try.pinned (OpenSpec.ofChange tagNoneWrong)

/-- 'foldlaw4.LoadNone': WHATEVER THE INPUT: true; the input reads as it did. -/
def loadNoneSpec : ChangeSpec := { name := "loadNone", fn := fun _ => fun
  | [d1, d2] => { results := [.lit (.bool true)], args := [d1, d2] }
  | _ => none }
def loadNoneRow : OpenClaim := { program := "ythfnjgiaimhbiaa", sum := "c274d99e74bc07cddbd05f24d257d0a039c44129d9b5147c2ef7ea274c3c05e0", func := "tokenfold/foldlaw4.LoadNone", spec := "loadNone", apart := false }
def LoadNoneSaid : Prop := loadNoneRow.holds Try.pinned (OpenSpec.ofChange loadNoneSpec)

/-- ITS FALSE NEIGHBOUR: 'it returns false'. Refute it at one input. -/
def loadNoneWrong : ChangeSpec := { name := "loadNone", fn := fun _ => fun
  | [d1, d2] => { results := [.lit (.bool false)], args := [d1, d2] }
  | _ => none }
def LoadNoneWrongFalsely : Prop := loadNoneRow.holds Try.pinned (OpenSpec.ofChange loadNoneWrong)

/-- 'foldlaw2.LoadFair': WHATEVER THE INPUT: true; the input reads as it did. -/
def loadFairSpec : ChangeSpec := { name := "loadFair", fn := fun _ => fun
  | [d1, d2, d3, d4] => { results := [.lit (.bool true)], args := [d1, d2, d3, d4] }
  | _ => none }
def loadFairRow : OpenClaim := { program := "ythfnjgiaimhbiaa", sum := "c274d99e74bc07cddbd05f24d257d0a039c44129d9b5147c2ef7ea274c3c05e0", func := "tokenfold/foldlaw2.LoadFair", spec := "loadFair", apart := false }
def LoadFairSaid : Prop := loadFairRow.holds Try.pinned (OpenSpec.ofChange loadFairSpec)

/-- ITS FALSE NEIGHBOUR: 'it returns false'. Refute it at one input. -/
def loadFairWrong : ChangeSpec := { name := "loadFair", fn := fun _ => fun
  | [d1, d2, d3, d4] => { results := [.lit (.bool false)], args := [d1, d2, d3, d4] }
  | _ => none }
def LoadFairWrongFalsely : Prop := loadFairRow.holds Try.pinned (OpenSpec.ofChange loadFairWrong)

/-- 'foldlaw1.ConnBack': WHATEVER THE INPUT: true; the input reads as it did. -/
def connBackSpec : ChangeSpec := { name := "connBack", fn := fun _ => fun
  | [d1, d2, d3, d4] => { results := [.lit (.bool true)], args := [d1, d2, d3, d4] }
  | _ => none }
def connBackRow : OpenClaim := { program := "ythfnjgiaimhbiaa", sum := "c274d99e74bc07cddbd05f24d257d0a039c44129d9b5147c2ef7ea274c3c05e0", func := "tokenfold/foldlaw1.ConnBack", spec := "connBack", apart := false }
def ConnBackSaid : Prop := connBackRow.holds Try.pinned (OpenSpec.ofChange connBackSpec)

/-- ITS FALSE NEIGHBOUR: 'it returns false'. Refute it at one input. -/
def connBackWrong : ChangeSpec := { name := "connBack", fn := fun _ => fun
  | [d1, d2, d3, d4] => { results := [.lit (.bool false)], args := [d1, d2, d3, d4] }
  | _ => none }
def ConnBackWrongFalsely : Prop := connBackRow.holds Try.pinned (OpenSpec.ofChange connBackWrong)

/-- 'foldlaw4.ConnAll': WHATEVER THE INPUT: true; the input reads as it did. -/
def connAllSpec : ChangeSpec := { name := "connAll", fn := fun _ => fun
  | [d] => { results := [.lit (.bool true)], args := [d] }
  | _ => none }
def connAllRow : OpenClaim := { program := "ythfnjgiaimhbiaa", sum := "c274d99e74bc07cddbd05f24d257d0a039c44129d9b5147c2ef7ea274c3c05e0", func := "tokenfold/foldlaw4.ConnAll", spec := "connAll", apart := false }
def ConnAllSaid : Prop := connAllRow.holds Try.pinned (OpenSpec.ofChange connAllSpec)

/-- ITS FALSE NEIGHBOUR: 'it returns false'. Refute it at one input. -/
def connAllWrong : ChangeSpec := { name := "connAll", fn := fun _ => fun
  | [d] => { results := [.lit (.bool false)], args := [d] }
  | _ => none }
def ConnAllWrongFalsely : Prop := connAllRow.holds Try.pinned (OpenSpec.ofChange connAllWrong)

/-- 'foldlaw4.VaultEmpty': WHATEVER THE INPUT: true; the input reads as it did. -/
def vaultEmptySpec : ChangeSpec := { name := "vaultEmpty", fn := fun _ => fun
  | [d] => { results := [.lit (.bool true)], args := [d] }
  | _ => none }
def vaultEmptyRow : OpenClaim := { program := "ythfnjgiaimhbiaa", sum := "c274d99e74bc07cddbd05f24d257d0a039c44129d9b5147c2ef7ea274c3c05e0", func := "tokenfold/foldlaw4.VaultEmpty", spec := "vaultEmpty", unfollowed := true, recurses := true, apart := false }
def VaultEmptySaid : Prop := vaultEmptyRow.holds Try.pinned (OpenSpec.ofChange vaultEmptySpec)

/-- ITS FALSE NEIGHBOUR: 'it returns false'. Refute it at one input. -/
def vaultEmptyWrong : ChangeSpec := { name := "vaultEmpty", fn := fun _ => fun
  | [d] => { results := [.lit (.bool false)], args := [d] }
  | _ => none }
def VaultEmptyWrongFalsely : Prop := vaultEmptyRow.holds Try.pinned (OpenSpec.ofChange vaultEmptyWrong)

/-- 'foldlaw1.Names': WHATEVER THE INPUT: true; the input reads as it did. -/
def namesSpec : ChangeSpec := { name := "names", fn := fun _ => fun
  | [] => { results := [.lit (.bool true)], args := [] }
  | _ => none }
def namesRow : OpenClaim := { program := "ythfnjgiaimhbiaa", sum := "c274d99e74bc07cddbd05f24d257d0a039c44129d9b5147c2ef7ea274c3c05e0", func := "tokenfold/foldlaw1.Names", spec := "names", apart := false }
def NamesSaid : Prop := namesRow.holds Try.pinned (OpenSpec.ofChange namesSpec)

/-- ITS FALSE NEIGHBOUR: 'it returns false'. Refute it at one input. -/
def namesWrong : ChangeSpec := { name := "names", fn := fun _ => fun
  | [] => { results := [.lit (.bool false)], args := [] }
  | _ => none }
def NamesWrongFalsely : Prop := namesRow.holds Try.pinned (OpenSpec.ofChange namesWrong)

/-- 'foldlaw1.ResetOwn': WHATEVER THE INPUT: true; the input reads as it did. -/
def resetOwnSpec : ChangeSpec := { name := "resetOwn", fn := fun _ => fun
  | [d1, d2, d3] => { results := [.lit (.bool true)], args := [d1, d2, d3] }
  | _ => none }
def resetOwnRow : OpenClaim := { program := "ythfnjgiaimhbiaa", sum := "c274d99e74bc07cddbd05f24d257d0a039c44129d9b5147c2ef7ea274c3c05e0", func := "tokenfold/foldlaw1.ResetOwn", spec := "resetOwn", apart := false }
def ResetOwnSaid : Prop := resetOwnRow.holds Try.pinned (OpenSpec.ofChange resetOwnSpec)

/-- ITS FALSE NEIGHBOUR: 'it returns false'. Refute it at one input. -/
def resetOwnWrong : ChangeSpec := { name := "resetOwn", fn := fun _ => fun
  | [d1, d2, d3] => { results := [.lit (.bool false)], args := [d1, d2, d3] }
  | _ => none }
def ResetOwnWrongFalsely : Prop := resetOwnRow.holds Try.pinned (OpenSpec.ofChange resetOwnWrong)

/-- 'foldlaw4.ResetWrong': WHATEVER THE INPUT: true; the input reads as it did. -/
def resetWrongSpec : ChangeSpec := { name := "resetWrong", fn := fun _ => fun
  | [d1, d2, d3] => { results := [.lit (.bool true)], args := [d1, d2, d3] }
  | _ => none }
def resetWrongRow : OpenClaim := { program := "ythfnjgiaimhbiaa", sum := "c274d99e74bc07cddbd05f24d257d0a039c44129d9b5147c2ef7ea274c3c05e0", func := "tokenfold/foldlaw4.ResetWrong", spec := "resetWrong", apart := false }
def ResetWrongSaid : Prop := resetWrongRow.holds Try.pinned (OpenSpec.ofChange resetWrongSpec)

/-- ITS FALSE NEIGHBOUR: 'it returns false'. Refute it at one input. -/
def resetWrongWrong : ChangeSpec := { name := "resetWrong", fn := fun _ => fun
  | [d1, d2, d3] => { results := [.lit (.bool false)], args := [d1, d2, d3] }
  | _ => none }
def ResetWrongWrongFalsely : Prop := resetWrongRow.holds Try.pinned (OpenSpec.ofChange resetWrongWrong)

/- THE SECOND FORM. 'bulk': how many values and letters a reading holds, each counted each time it is reached (what is shared counts as often as it is met; a slice's spare places count too). A statement '..UptoSaid' is the law's where the arguments, and the package variables that the reading takes, are together of bulk at most 1048576: NARROWER than '..Said'. Prove '..Said' where nothing that the law and all that it calls make is longer than what came in: it says more and counts as full. Else prove '..UptoSaid'. A law counts once. -/
mutual
def uptoBulk {H : Type} : DataW H → Nat
  | .lit (.string bytes) => bytes.length + 1
  | .lit _ => 1
  | .nil => 1
  | .ptr d => uptoBulk d + 1
  | .slice elems spare => uptoBulkAll elems + uptoBulkAll spare + 1
  | .agg parts => uptoBulkAll parts + 1
  | .iface _ d => uptoBulk d + 1
  | .map entries => uptoBulkEntries entries + 1
  | .held _ => 1
def uptoBulkAll {H : Type} : List (DataW H) → Nat
  | [] => 0
  | d :: r => uptoBulk d + uptoBulkAll r
def uptoBulkEntries {H : Type} : List (Lit × DataW H) → Nat
  | [] => 0
  | x :: r => uptoBulkEntry x + uptoBulkEntries r
def uptoBulkEntry {H : Type} : Lit × DataW H → Nat
  | (.string bytes, d) => bytes.length + uptoBulk d + 1
  | (_, d) => uptoBulk d + 1
 end
def uptoSmall : (H : Type) → List (DataW H) → Bool := fun _ ds => decide (uptoBulkAll ds ≤ 1048576)
def OpenSpec.upto (s : _root_.Go.ChangeSpec) : _root_.Go.OpenSpec := { _root_.Go.OpenSpec.ofChange s with cond := some uptoSmall }

/-- 'foldlaw4.BlockEight', WHERE WHAT IT READS IS OF BULK AT MOST 1048576: true; the input reads as it did. -/
def blockEightUptoRow : OpenClaim := { program := "ythfnjgiaimhbiaa", sum := "c274d99e74bc07cddbd05f24d257d0a039c44129d9b5147c2ef7ea274c3c05e0", func := "tokenfold/foldlaw4.BlockEight", spec := "blockEight", apart := false, narrowed := true }
def BlockEightUptoSaid : Prop := blockEightUptoRow.holds Try.pinned (OpenSpec.upto blockEightSpec)

/-- 'foldlaw4.LifeMany', WHERE WHAT IT READS IS OF BULK AT MOST 1048576: true; the input reads as it did. -/
def lifeManyUptoRow : OpenClaim := { program := "ythfnjgiaimhbiaa", sum := "c274d99e74bc07cddbd05f24d257d0a039c44129d9b5147c2ef7ea274c3c05e0", func := "tokenfold/foldlaw4.LifeMany", spec := "lifeMany", apart := false, narrowed := true }
def LifeManyUptoSaid : Prop := lifeManyUptoRow.holds Try.pinned (OpenSpec.upto lifeManySpec)

/-- 'foldlaw4.EarlyNone', WHERE WHAT IT READS IS OF BULK AT MOST 1048576: true; the input reads as it did. -/
def earlyNoneUptoRow : OpenClaim := { program := "ythfnjgiaimhbiaa", sum := "c274d99e74bc07cddbd05f24d257d0a039c44129d9b5147c2ef7ea274c3c05e0", func := "tokenfold/foldlaw4.EarlyNone", spec := "earlyNone", apart := false, narrowed := true }
def EarlyNoneUptoSaid : Prop := earlyNoneUptoRow.holds Try.pinned (OpenSpec.upto earlyNoneSpec)

/-- 'foldlaw4.TagNone', WHERE WHAT IT READS IS OF BULK AT MOST 1048576: true; the input reads as it did. -/
def tagNoneUptoRow : OpenClaim := { program := "ythfnjgiaimhbiaa", sum := "c274d99e74bc07cddbd05f24d257d0a039c44129d9b5147c2ef7ea274c3c05e0", func := "tokenfold/foldlaw4.TagNone", spec := "tagNone", apart := false, narrowed := true }
def TagNoneUptoSaid : Prop := tagNoneUptoRow.holds Try.pinned (OpenSpec.upto tagNoneSpec)

/-- 'foldlaw4.LoadNone', WHERE WHAT IT READS IS OF BULK AT MOST 1048576: true; the input reads as it did. -/
def loadNoneUptoRow : OpenClaim := { program := "ythfnjgiaimhbiaa", sum := "c274d99e74bc07cddbd05f24d257d0a039c44129d9b5147c2ef7ea274c3c05e0", func := "tokenfold/foldlaw4.LoadNone", spec := "loadNone", apart := false, narrowed := true }
def LoadNoneUptoSaid : Prop := loadNoneUptoRow.holds Try.pinned (OpenSpec.upto loadNoneSpec)

/-- 'foldlaw2.LoadFair', WHERE WHAT IT READS IS OF BULK AT MOST 1048576: true; the input reads as it did. -/
def loadFairUptoRow : OpenClaim := { program := "ythfnjgiaimhbiaa", sum := "c274d99e74bc07cddbd05f24d257d0a039c44129d9b5147c2ef7ea274c3c05e0", func := "tokenfold/foldlaw2.LoadFair", spec := "loadFair", apart := false, narrowed := true }
def LoadFairUptoSaid : Prop := loadFairUptoRow.holds Try.pinned (OpenSpec.upto loadFairSpec)

/-- 'foldlaw1.ConnBack', WHERE WHAT IT READS IS OF BULK AT MOST 1048576: true; the input reads as it did. -/
def connBackUptoRow : OpenClaim := { program := "ythfnjgiaimhbiaa", sum := "c274d99e74bc07cddbd05f24d257d0a039c44129d9b5147c2ef7ea274c3c05e0", func := "tokenfold/foldlaw1.ConnBack", spec := "connBack", apart := false, narrowed := true }
def ConnBackUptoSaid : Prop := connBackUptoRow.holds Try.pinned (OpenSpec.upto connBackSpec)

/-- 'foldlaw4.ConnAll', WHERE WHAT IT READS IS OF BULK AT MOST 1048576: true; the input reads as it did. -/
def connAllUptoRow : OpenClaim := { program := "ythfnjgiaimhbiaa", sum := "c274d99e74bc07cddbd05f24d257d0a039c44129d9b5147c2ef7ea274c3c05e0", func := "tokenfold/foldlaw4.ConnAll", spec := "connAll", apart := false, narrowed := true }
def ConnAllUptoSaid : Prop := connAllUptoRow.holds Try.pinned (OpenSpec.upto connAllSpec)

/-- 'foldlaw4.VaultEmpty', WHERE WHAT IT READS IS OF BULK AT MOST 1048576: true; the input reads as it did. -/
def vaultEmptyUptoRow : OpenClaim := { program := "ythfnjgiaimhbiaa", sum := "c274d99e74bc07cddbd05f24d257d0a039c44129d9b5147c2ef7ea274c3c05e0", func := "tokenfold/foldlaw4.VaultEmpty", spec := "vaultEmpty", unfollowed := true, recurses := true, apart := false, narrowed := true }
def VaultEmptyUptoSaid : Prop := vaultEmptyUptoRow.holds Try.pinned (OpenSpec.upto vaultEmptySpec)

/-- 'foldlaw1.Names', WHERE WHAT IT READS IS OF BULK AT MOST 1048576: true; the input reads as it did. -/
def namesUptoRow : OpenClaim := { program := "ythfnjgiaimhbiaa", sum := "c274d99e74bc07cddbd05f24d257d0a039c44129d9b5147c2ef7ea274c3c05e0", func := "tokenfold/foldlaw1.Names", spec := "names", apart := false, narrowed := true }
def NamesUptoSaid : Prop := namesUptoRow.holds Try.pinned (OpenSpec.upto namesSpec)

/-- 'foldlaw1.ResetOwn', WHERE WHAT IT READS IS OF BULK AT MOST 1048576: true; the input reads as it did. -/
def resetOwnUptoRow : OpenClaim := { program := "ythfnjgiaimhbiaa", sum := "c274d99e74bc07cddbd05f24d257d0a039c44129d9b5147c2ef7ea274c3c05e0", func := "tokenfold/foldlaw1.ResetOwn", spec := "resetOwn", apart := false, narrowed := true }
def ResetOwnUptoSaid : Prop := resetOwnUptoRow.holds Try.pinned (OpenSpec.upto resetOwnSpec)

/-- 'foldlaw4.ResetWrong', WHERE WHAT IT READS IS OF BULK AT MOST 1048576: true; the input reads as it did. -/
def resetWrongUptoRow : OpenClaim := { program := "ythfnjgiaimhbiaa", sum := "c274d99e74bc07cddbd05f24d257d0a039c44129d9b5147c2ef7ea274c3c05e0", func := "tokenfold/foldlaw4.ResetWrong", spec := "resetWrong", apart := false, narrowed := true }
def ResetWrongUptoSaid : Prop := resetWrongUptoRow.holds Try.pinned (OpenSpec.upto resetWrongSpec)

end Rows
end Go.Proofs.Ythfnjgiaimhbiaa
