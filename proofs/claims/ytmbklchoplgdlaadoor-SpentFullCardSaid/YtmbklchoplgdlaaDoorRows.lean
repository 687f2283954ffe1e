/-
  NARROWER THAN 'FOR EVERY INPUT', by the rows' own cells (each row's printed sentence says how): TopTurned: laid · VaultSure: laid · VaultPlays: laid · SpentFull: laid · SpentTells: laid · SpentOnce: laid · JudgeTells: laid.
  DERIVED. THE GIVEN ROWS OF THIS SEAT. 7 by the template 'for every input the law returns true; each argument reads behind the call as it read before'; 0 by the template 'total and deterministic' (their statements: YtmbklchoplgdlaaDoorTotals.lean).
  GIVEN WITH THE SEED: the statements are not yours to turn. If you find one false, say at which input.
  Laid BY PROGRAM, IN A SANDBOX (cutbox-rows.mjs): the forced cells as the released guide's own fill.sh prints them over the translation 6ac79d48d8e4d517… (all of the seat's roots in one cut). By AI agents, Wed Nov 11 2026. No macro, syntax, notation, axiom, sorry.
-/
import Derived.Test.YtmbklchoplgdlaaDoorChecked
import GoSem.Claim
import GoSem.ClaimJoined
import GoSem.ClaimMapViews
import Derived.JoinedTies
import Derived.KernelRfl
namespace Go.Proofs.YtmbklchoplgdlaaDoor
/- THE CELL 'sum', in the pinned program and in every row, IS THE sha256 OF THE DUMP (.gsa) THAT YtmbklchoplgdlaaDoorProg.lean LOADS. Nothing in Lean hashes anything: it is a label: what it is worth is what the hold of that sum in a sandbox is worth. -/
noncomputable def Tryd.pinned : Pinned := { name := "ytmbklchoplgdlaadoor", sum := "6ac79d48d8e4d5178af1ca74da48751c383bb085af077bc05dad293ad5a8a4a6", checked := Tryd.checked }
namespace Rows
def none {H : Type} : Left H := { results := [], args := [] }

/- WHAT THE LISTED PACKAGE-LEVEL VARIABLES READ AS WHEN THE CALL BEGINS. Each datum BY PROGRAM (the guide's laid-datum.mjs) off the statement by which the dump's own 'gosem.cut.vars' lays the variable. In a bare row this is a premise. The card (YtmbklchoplgdlaaDoorCards.lean) ties it to the program's text. -/
def laid_errors_errorType {H : Type} : DataW H := .iface "internal/reflectlite.rtype" (.agg [.ptr (.lit (.string [101, 114, 114, 111, 114]))])

/-- 'foldtop.TopTurned': WHATEVER THE INPUT: true; the input reads as it did. -/
def topTurnedSpec : ChangeSpec := { name := "topTurned", fn := fun _ => fun
  | [d1, d2, d3, d4, d5] => { results := [.lit (.bool true)], args := [d1, d2, d3, d4, d5] }
  | _ => none }
def topTurnedRow : OpenClaim := { program := "ytmbklchoplgdlaadoor", sum := "6ac79d48d8e4d5178af1ca74da48751c383bb085af077bc05dad293ad5a8a4a6", func := "tokenfold/foldtop.TopTurned", spec := "topTurned", inPlace := ["internal/reflectlite.ValueOf", "(internal/reflectlite.Value).Type", "(internal/reflectlite.Value).IsNil", "internal/reflectlite.TypeOf", "(internal/reflectlite.Value).Elem", "(internal/reflectlite.Value).Set"], unfollowed := true, recurses := true, named := ["errors.errorType"], apart := false, laid := [("errors.errorType", laid_errors_errorType)] }
def TopTurnedSaid : Prop := topTurnedRow.holds Tryd.pinned (OpenSpec.ofChange topTurnedSpec)

/-- ITS FALSE NEIGHBOUR: 'it returns false'. Refute it at one input. -/
def topTurnedWrong : ChangeSpec := { name := "topTurned", fn := fun _ => fun
  | [d1, d2, d3, d4, d5] => { results := [.lit (.bool false)], args := [d1, d2, d3, d4, d5] }
  | _ => none }
def TopTurnedWrongFalsely : Prop := topTurnedRow.holds Tryd.pinned (OpenSpec.ofChange topTurnedWrong)

/-- 'foldlaw2.VaultSure': WHATEVER THE INPUT: true; the input reads as it did. -/
def vaultSureSpec : ChangeSpec := { name := "vaultSure", fn := fun _ => fun
  | [d1, d2, d3, d4, d5] => { results := [.lit (.bool true)], args := [d1, d2, d3, d4, d5] }
  | _ => none }
def vaultSureRow : OpenClaim := { program := "ytmbklchoplgdlaadoor", sum := "6ac79d48d8e4d5178af1ca74da48751c383bb085af077bc05dad293ad5a8a4a6", func := "tokenfold/foldlaw2.VaultSure", spec := "vaultSure", inPlace := ["internal/reflectlite.ValueOf", "(internal/reflectlite.Value).Type", "(internal/reflectlite.Value).IsNil", "internal/reflectlite.TypeOf", "(internal/reflectlite.Value).Elem", "(internal/reflectlite.Value).Set"], unfollowed := true, recurses := true, named := ["errors.errorType"], apart := false, laid := [("errors.errorType", laid_errors_errorType)] }
def VaultSureSaid : Prop := vaultSureRow.holds Tryd.pinned (OpenSpec.ofChange vaultSureSpec)

/-- ITS FALSE NEIGHBOUR: 'it returns false'. Refute it at one input. -/
def vaultSureWrong : ChangeSpec := { name := "vaultSure", fn := fun _ => fun
  | [d1, d2, d3, d4, d5] => { results := [.lit (.bool false)], args := [d1, d2, d3, d4, d5] }
  | _ => none }
def VaultSureWrongFalsely : Prop := vaultSureRow.holds Tryd.pinned (OpenSpec.ofChange vaultSureWrong)

/-- 'foldlaw2.VaultPlays': WHATEVER THE INPUT: true; the input reads as it did. -/
def vaultPlaysSpec : ChangeSpec := { name := "vaultPlays", fn := fun _ => fun
  | [d] => { results := [.lit (.bool true)], args := [d] }
  | _ => none }
def vaultPlaysRow : OpenClaim := { program := "ytmbklchoplgdlaadoor", sum := "6ac79d48d8e4d5178af1ca74da48751c383bb085af077bc05dad293ad5a8a4a6", func := "tokenfold/foldlaw2.VaultPlays", spec := "vaultPlays", inPlace := ["internal/reflectlite.ValueOf", "(internal/reflectlite.Value).Type", "(internal/reflectlite.Value).IsNil", "internal/reflectlite.TypeOf", "(internal/reflectlite.Value).Elem", "(internal/reflectlite.Value).Set"], unfollowed := true, recurses := true, named := ["errors.errorType"], apart := false, laid := [("errors.errorType", laid_errors_errorType)] }
def VaultPlaysSaid : Prop := vaultPlaysRow.holds Tryd.pinned (OpenSpec.ofChange vaultPlaysSpec)

/-- ITS FALSE NEIGHBOUR: 'it returns false'. Refute it at one input. -/
def vaultPlaysWrong : ChangeSpec := { name := "vaultPlays", fn := fun _ => fun
  | [d] => { results := [.lit (.bool false)], args := [d] }
  | _ => none }
def VaultPlaysWrongFalsely : Prop := vaultPlaysRow.holds Tryd.pinned (OpenSpec.ofChange vaultPlaysWrong)

/-- 'foldlaw4.SpentFull': WHATEVER THE INPUT: true; the input reads as it did. -/
def spentFullSpec : ChangeSpec := { name := "spentFull", fn := fun _ => fun
  | [d] => { results := [.lit (.bool true)], args := [d] }
  | _ => none }
def spentFullRow : OpenClaim := { program := "ytmbklchoplgdlaadoor", sum := "6ac79d48d8e4d5178af1ca74da48751c383bb085af077bc05dad293ad5a8a4a6", func := "tokenfold/foldlaw4.SpentFull", spec := "spentFull", inPlace := ["internal/reflectlite.ValueOf", "(internal/reflectlite.Value).Type", "(internal/reflectlite.Value).IsNil", "internal/reflectlite.TypeOf", "(internal/reflectlite.Value).Elem", "(internal/reflectlite.Value).Set"], unfollowed := true, recurses := true, named := ["errors.errorType"], apart := false, laid := [("errors.errorType", laid_errors_errorType)] }
def SpentFullSaid : Prop := spentFullRow.holds Tryd.pinned (OpenSpec.ofChange spentFullSpec)

/-- ITS FALSE NEIGHBOUR: 'it returns false'. Refute it at one input. -/
def spentFullWrong : ChangeSpec := { name := "spentFull", fn := fun _ => fun
  | [d] => { results := [.lit (.bool false)], args := [d] }
  | _ => none }
def SpentFullWrongFalsely : Prop := spentFullRow.holds Tryd.pinned (OpenSpec.ofChange spentFullWrong)

/-- 'foldlaw1.SpentTells': WHATEVER THE INPUT: true; the input reads as it did. -/
def spentTellsSpec : ChangeSpec := { name := "spentTells", fn := fun _ => fun
  | [d1, d2, d3, d4] => { results := [.lit (.bool true)], args := [d1, d2, d3, d4] }
  | _ => none }
def spentTellsRow : OpenClaim := { program := "ytmbklchoplgdlaadoor", sum := "6ac79d48d8e4d5178af1ca74da48751c383bb085af077bc05dad293ad5a8a4a6", func := "tokenfold/foldlaw1.SpentTells", spec := "spentTells", inPlace := ["internal/reflectlite.ValueOf", "(internal/reflectlite.Value).Type", "(internal/reflectlite.Value).IsNil", "internal/reflectlite.TypeOf", "(internal/reflectlite.Value).Elem", "(internal/reflectlite.Value).Set"], unfollowed := true, recurses := true, named := ["errors.errorType"], apart := false, laid := [("errors.errorType", laid_errors_errorType)] }
def SpentTellsSaid : Prop := spentTellsRow.holds Tryd.pinned (OpenSpec.ofChange spentTellsSpec)

/-- ITS FALSE NEIGHBOUR: 'it returns false'. Refute it at one input. -/
def spentTellsWrong : ChangeSpec := { name := "spentTells", fn := fun _ => fun
  | [d1, d2, d3, d4] => { results := [.lit (.bool false)], args := [d1, d2, d3, d4] }
  | _ => none }
def SpentTellsWrongFalsely : Prop := spentTellsRow.holds Tryd.pinned (OpenSpec.ofChange spentTellsWrong)

/-- 'foldlaw1.SpentOnce': WHATEVER THE INPUT: true; the input reads as it did. -/
def spentOnceSpec : ChangeSpec := { name := "spentOnce", fn := fun _ => fun
  | [d1, d2, d3, d4, d5] => { results := [.lit (.bool true)], args := [d1, d2, d3, d4, d5] }
  | _ => none }
def spentOnceRow : OpenClaim := { program := "ytmbklchoplgdlaadoor", sum := "6ac79d48d8e4d5178af1ca74da48751c383bb085af077bc05dad293ad5a8a4a6", func := "tokenfold/foldlaw1.SpentOnce", spec := "spentOnce", inPlace := ["internal/reflectlite.ValueOf", "(internal/reflectlite.Value).Type", "(internal/reflectlite.Value).IsNil", "internal/reflectlite.TypeOf", "(internal/reflectlite.Value).Elem", "(internal/reflectlite.Value).Set"], unfollowed := true, recurses := true, named := ["errors.errorType"], apart := false, laid := [("errors.errorType", laid_errors_errorType)] }
def SpentOnceSaid : Prop := spentOnceRow.holds Tryd.pinned (OpenSpec.ofChange spentOnceSpec)

/-- ITS FALSE NEIGHBOUR: 'it returns false'. Refute it at one input. -/
def spentOnceWrong : ChangeSpec := { name := "spentOnce", fn := fun _ => fun
  | [d1, d2, d3, d4, d5] => { results := [.lit (.bool false)], args := [d1, d2, d3, d4, d5] }
  | _ => none }
def SpentOnceWrongFalsely : Prop := spentOnceRow.holds Tryd.pinned (OpenSpec.ofChange spentOnceWrong)

/-- 'foldlaw2.JudgeTells': WHATEVER THE INPUT: true; the input reads as it did. -/
def judgeTellsSpec : ChangeSpec := { name := "judgeTells", fn := fun _ => fun
  | [d1, d2, d3, d4, d5] => { results := [.lit (.bool true)], args := [d1, d2, d3, d4, d5] }
  | _ => none }
def judgeTellsRow : OpenClaim := { program := "ytmbklchoplgdlaadoor", sum := "6ac79d48d8e4d5178af1ca74da48751c383bb085af077bc05dad293ad5a8a4a6", func := "tokenfold/foldlaw2.JudgeTells", spec := "judgeTells", inPlace := ["internal/reflectlite.ValueOf", "(internal/reflectlite.Value).Type", "(internal/reflectlite.Value).IsNil", "internal/reflectlite.TypeOf", "(internal/reflectlite.Value).Elem", "(internal/reflectlite.Value).Set"], unfollowed := true, recurses := true, named := ["errors.errorType"], apart := false, laid := [("errors.errorType", laid_errors_errorType)] }
def JudgeTellsSaid : Prop := judgeTellsRow.holds Tryd.pinned (OpenSpec.ofChange judgeTellsSpec)

/-- ITS FALSE NEIGHBOUR: 'it returns false'. Refute it at one input. -/
def judgeTellsWrong : ChangeSpec := { name := "judgeTells", fn := fun _ => fun
  | [d1, d2, d3, d4, d5] => { results := [.lit (.bool false)], args := [d1, d2, d3, d4, d5] }
  | _ => none }
def JudgeTellsWrongFalsely : Prop := judgeTellsRow.holds Tryd.pinned (OpenSpec.ofChange judgeTellsWrong)

/- THE SECOND FORM. 'bulk': how many values and letters a reading holds, each counted each time it is reached (what is shared counts as often as it is met; a slice's spare places count too). A statement '..UptoSaid' is the law's where the arguments, and the package variables that the reading takes, are together of bulk at most 1048576: NARROWER than '..Said'. Prove '..Said' where nothing that the law and all that it calls make is longer than what came in: it says more and counts as full. Else prove '..UptoSaid'. A law counts once. -/
mutual
def uptoBulk {H : Type} : DataW H → Nat
  | .lit (.string bytes) => bytes.length + 1
  | .lit _ => 1
  | .nil => 1
  | .ptr d => uptoBulk d + 1
  | .slice elems spare => uptoBulkAll elems + uptoBulkAll spare + 1
  | .agg parts => uptoBulkAll parts + 1
  | .iface _ d => uptoBulk d + 1
  | .map entries => uptoBulkEntries entries + 1
  | .held _ => 1
def uptoBulkAll {H : Type} : List (DataW H) → Nat
  | [] => 0
  | d :: r => uptoBulk d + uptoBulkAll r
def uptoBulkEntries {H : Type} : List (Lit × DataW H) → Nat
  | [] => 0
  | x :: r => uptoBulkEntry x + uptoBulkEntries r
def uptoBulkEntry {H : Type} : Lit × DataW H → Nat
  | (.string bytes, d) => bytes.length + uptoBulk d + 1
  | (_, d) => uptoBulk d + 1
 end
def uptoSmall : (H : Type) → List (DataW H) → Bool := fun _ ds => decide (uptoBulkAll ds ≤ 1048576)
def OpenSpec.upto (s : _root_.Go.ChangeSpec) : _root_.Go.OpenSpec := { _root_.Go.OpenSpec.ofChange s with cond := some uptoSmall }

/-- 'foldtop.TopTurned', WHERE WHAT IT READS IS OF BULK AT MOST 1048576: true; the input reads as it did. -/
def topTurnedUptoRow : OpenClaim := { program := "ytmbklchoplgdlaadoor", sum := "6ac79d48d8e4d5178af1ca74da48751c383bb085af077bc05dad293ad5a8a4a6", func := "tokenfold/foldtop.TopTurned", spec := "topTurned", inPlace := ["internal/reflectlite.ValueOf", "(internal/reflectlite.Value).Type", "(internal/reflectlite.Value).IsNil", "internal/reflectlite.TypeOf", "(internal/reflectlite.Value).Elem", "(internal/reflectlite.Value).Set"], unfollowed := true, recurses := true, named := ["errors.errorType"], apart := false, laid := [("errors.errorType", laid_errors_errorType)], narrowed := true }
def TopTurnedUptoSaid : Prop := topTurnedUptoRow.holds Tryd.pinned (OpenSpec.upto topTurnedSpec)

/-- 'foldlaw2.VaultSure', WHERE WHAT IT READS IS OF BULK AT MOST 1048576: true; the input reads as it did. -/
def vaultSureUptoRow : OpenClaim := { program := "ytmbklchoplgdlaadoor", sum := "6ac79d48d8e4d5178af1ca74da48751c383bb085af077bc05dad293ad5a8a4a6", func := "tokenfold/foldlaw2.VaultSure", spec := "vaultSure", inPlace := ["internal/reflectlite.ValueOf", "(internal/reflectlite.Value).Type", "(internal/reflectlite.Value).IsNil", "internal/reflectlite.TypeOf", "(internal/reflectlite.Value).Elem", "(internal/reflectlite.Value).Set"], unfollowed := true, recurses := true, named := ["errors.errorType"], apart := false, laid := [("errors.errorType", laid_errors_errorType)], narrowed := true }
def VaultSureUptoSaid : Prop := vaultSureUptoRow.holds Tryd.pinned (OpenSpec.upto vaultSureSpec)

/-- 'foldlaw2.VaultPlays', WHERE WHAT IT READS IS OF BULK AT MOST 1048576: true; the input reads as it did. -/
def vaultPlaysUptoRow : OpenClaim := { program := "ytmbklchoplgdlaadoor", sum := "6ac79d48d8e4d5178af1ca74da48751c383bb085af077bc05dad293ad5a8a4a6", func := "tokenfold/foldlaw2.VaultPlays", spec := "vaultPlays", inPlace := ["internal/reflectlite.ValueOf", "(internal/reflectlite.Value).Type", "(internal/reflectlite.Value).IsNil", "internal/reflectlite.TypeOf", "(internal/reflectlite.Value).Elem", "(internal/reflectlite.Value).Set"], unfollowed := true, recurses := true, named := ["errors.errorType"], apart := false, laid := [("errors.errorType", laid_errors_errorType)], narrowed := true }
def VaultPlaysUptoSaid : Prop := vaultPlaysUptoRow.holds Tryd.pinned (OpenSpec.upto vaultPlaysSpec)

/-- 'foldlaw4.SpentFull', WHERE WHAT IT READS IS OF BULK AT MOST 1048576: true; the input reads as it did. -/
def spentFullUptoRow : OpenClaim := { program := "ytmbklchoplgdlaadoor", sum := "6ac79d48d8e4d5178af1ca74da48751c383bb085af077bc05dad293ad5a8a4a6", func := "tokenfold/foldlaw4.SpentFull", spec := "spentFull", inPlace := ["internal/reflectlite.ValueOf", "(internal/reflectlite.Value).Type", "(internal/reflectlite.Value).IsNil", "internal/reflectlite.TypeOf", "(internal/reflectlite.Value).Elem", "(internal/reflectlite.Value).Set"], unfollowed := true, recurses := true, named := ["errors.errorType"], apart := false, laid := [("errors.errorType", laid_errors_errorType)], narrowed := true }
def SpentFullUptoSaid : Prop := spentFullUptoRow.holds Tryd.pinned (OpenSpec.upto spentFullSpec)

/-- 'foldlaw1.SpentTells', WHERE WHAT IT READS IS OF BULK AT MOST 1048576: true; the input reads as it did. -/
def spentTellsUptoRow : OpenClaim := { program := "ytmbklchoplgdlaadoor", sum := "6ac79d48d8e4d5178af1ca74da48751c383bb085af077bc05dad293ad5a8a4a6", func := "tokenfold/foldlaw1.SpentTells", spec := "spentTells", inPlace := ["internal/reflectlite.ValueOf", "(internal/reflectlite.Value).Type", "(internal/reflectlite.Value).IsNil", "internal/reflectlite.TypeOf", "(internal/reflectlite.Value).Elem", "(internal/reflectlite.Value).Set"], unfollowed := true, recurses := true, named := ["errors.errorType"], apart := false, laid := [("errors.errorType", laid_errors_errorType)], narrowed := true }
def SpentTellsUptoSaid : Prop := spentTellsUptoRow.holds Tryd.pinned (OpenSpec.upto spentTellsSpec)

/-- 'foldlaw1.SpentOnce', WHERE WHAT IT READS IS OF BULK AT MOST 1048576: true; the input reads as it did. -/
def spentOnceUptoRow : OpenClaim := { program := "ytmbklchoplgdlaadoor", sum := "6ac79d48d8e4d5178af1ca74da48751c383bb085af077bc05dad293ad5a8a4a6", func := "tokenfold/foldlaw1.SpentOnce", spec := "spentOnce", inPlace := ["internal/reflectlite.ValueOf", "(internal/reflectlite.Value).Type", "(internal/reflectlite.Value).IsNil", "internal/reflectlite.TypeOf", "(internal/reflectlite.Value).Elem", "(internal/reflectlite.Value).Set"], unfollowed := true, recurses := true, named := ["errors.errorType"], apart := false, laid := [("errors.errorType", laid_errors_errorType)], narrowed := true }
def SpentOnceUptoSaid : Prop := spentOnceUptoRow.holds Tryd.pinned (OpenSpec.upto spentOnceSpec)

/-- 'foldlaw2.JudgeTells', WHERE WHAT IT READS IS OF BULK AT MOST 1048576: true; the input reads as it did. -/
def judgeTellsUptoRow : OpenClaim := { program := "ytmbklchoplgdlaadoor", sum := "6ac79d48d8e4d5178af1ca74da48751c383bb085af077bc05dad293ad5a8a4a6", func := "tokenfold/foldlaw2.JudgeTells", spec := "judgeTells", inPlace := ["internal/reflectlite.ValueOf", "(internal/reflectlite.Value).Type", "(internal/reflectlite.Value).IsNil", "internal/reflectlite.TypeOf", "(internal/reflectlite.Value).Elem", "(internal/reflectlite.Value).Set"], unfollowed := true, recurses := true, named := ["errors.errorType"], apart := false, laid := [("errors.errorType", laid_errors_errorType)], narrowed := true }
def JudgeTellsUptoSaid : Prop := judgeTellsUptoRow.holds Tryd.pinned (OpenSpec.upto judgeTellsSpec)

end Rows
end Go.Proofs.YtmbklchoplgdlaaDoor
