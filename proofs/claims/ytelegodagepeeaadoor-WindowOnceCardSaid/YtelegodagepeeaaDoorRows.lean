/-
  NARROWER THAN 'FOR EVERY INPUT', by the rows' own cells (each row's printed sentence says how): WindowTells: laid · WindowOnce: laid · QueueOrders: laid · IssuePlays: laid · RingTwo: laid · QueueFull: laid · TokenTells: laid · TokenNow: laid · TicketTells: laid · QueuePlays: laid · TicketHolds: laid · TokenHolds: laid.
  DERIVED. THE GIVEN ROWS OF THIS SEAT. 12 by the template 'for every input the law returns true; each argument reads behind the call as it read before'; 0 by the template 'total and deterministic' (their statements: YtelegodagepeeaaDoorTotals.lean).
  GIVEN WITH THE SEED: the statements are not yours to turn. If you find one false, say at which input.
  Laid BY PROGRAM, IN A SANDBOX (cutbox-rows.mjs): the forced cells as the released guide's own fill.sh prints them over the translation 2faec6443a64a22d… (all of the seat's roots in one cut). By AI agents, Wed Nov 11 2026. No macro, syntax, notation, axiom, sorry.
-/
import Derived.Test.YtelegodagepeeaaDoorChecked
import GoSem.Claim
import GoSem.ClaimJoined
import GoSem.ClaimMapViews
import Derived.JoinedTies
import Derived.KernelRfl
namespace Go.Proofs.YtelegodagepeeaaDoor
/- THE CELL 'sum', in the pinned program and in every row, IS THE sha256 OF THE DUMP (.gsa) THAT YtelegodagepeeaaDoorProg.lean LOADS. Nothing in Lean hashes anything: it is a label: what it is worth is what the hold of that sum in a sandbox is worth. -/
noncomputable def Tryd.pinned : Pinned := { name := "ytelegodagepeeaadoor", sum := "2faec6443a64a22ddf50ca6f7b65eba3e5cb4516106291bbb1a844742fb45756", checked := Tryd.checked }
namespace Rows
def none {H : Type} : Left H := { results := [], args := [] }

/- WHAT THE LISTED PACKAGE-LEVEL VARIABLES READ AS WHEN THE CALL BEGINS. Each datum BY PROGRAM (the guide's laid-datum.mjs) off the statement by which the dump's own 'gosem.cut.vars' lays the variable. In a bare row this is a premise. The card (YtelegodagepeeaaDoorCards.lean) ties it to the program's text. -/
def laid_errors_errorType {H : Type} : DataW H := .iface "internal/reflectlite.rtype" (.agg [.ptr (.lit (.string [101, 114, 114, 111, 114]))])

/-- 'foldlaw1.WindowTells': WHATEVER THE INPUT: true; the input reads as it did. -/
def windowTellsSpec : ChangeSpec := { name := "windowTells", fn := fun _ => fun
  | [d1, d2] => { results := [.lit (.bool true)], args := [d1, d2] }
  | _ => none }
def windowTellsRow : OpenClaim := { program := "ytelegodagepeeaadoor", sum := "2faec6443a64a22ddf50ca6f7b65eba3e5cb4516106291bbb1a844742fb45756", func := "tokenfold/foldlaw1.WindowTells", spec := "windowTells", inPlace := ["internal/reflectlite.ValueOf", "(internal/reflectlite.Value).Type", "(internal/reflectlite.Value).IsNil", "internal/reflectlite.TypeOf", "(internal/reflectlite.Value).Elem", "(internal/reflectlite.Value).Set"], unfollowed := true, recurses := true, named := ["errors.errorType"], apart := false, laid := [("errors.errorType", laid_errors_errorType)] }
def WindowTellsSaid : Prop := windowTellsRow.holds Tryd.pinned (OpenSpec.ofChange windowTellsSpec)

/-- ITS FALSE NEIGHBOUR: 'it returns false'. Refute it at one input. -/
def windowTellsWrong : ChangeSpec := { name := "windowTells", fn := fun _ => fun
  | [d1, d2] => { results := [.lit (.bool false)], args := [d1, d2] }
  | _ => none }
def WindowTellsWrongFalsely : Prop := windowTellsRow.holds Tryd.pinned (OpenSpec.ofChange windowTellsWrong)

/-- 'foldlaw1.WindowOnce': WHATEVER THE INPUT: true; the input reads as it did. -/
def windowOnceSpec : ChangeSpec := { name := "windowOnce", fn := fun _ => fun
  | [d] => { results := [.lit (.bool true)], args := [d] }
  | _ => none }
def windowOnceRow : OpenClaim := { program := "ytelegodagepeeaadoor", sum := "2faec6443a64a22ddf50ca6f7b65eba3e5cb4516106291bbb1a844742fb45756", func := "tokenfold/foldlaw1.WindowOnce", spec := "windowOnce", inPlace := ["internal/reflectlite.ValueOf", "(internal/reflectlite.Value).Type", "(internal/reflectlite.Value).IsNil", "internal/reflectlite.TypeOf", "(internal/reflectlite.Value).Elem", "(internal/reflectlite.Value).Set"], unfollowed := true, recurses := true, named := ["errors.errorType"], apart := false, laid := [("errors.errorType", laid_errors_errorType)] }
def WindowOnceSaid : Prop := windowOnceRow.holds Tryd.pinned (OpenSpec.ofChange windowOnceSpec)

/-- ITS FALSE NEIGHBOUR: 'it returns false'. Refute it at one input. -/
def windowOnceWrong : ChangeSpec := { name := "windowOnce", fn := fun _ => fun
  | [d] => { results := [.lit (.bool false)], args := [d] }
  | _ => none }
def WindowOnceWrongFalsely : Prop := windowOnceRow.holds Tryd.pinned (OpenSpec.ofChange windowOnceWrong)

/-- 'foldlaw2.QueueOrders': WHATEVER THE INPUT: true; the input reads as it did. -/
def queueOrdersSpec : ChangeSpec := { name := "queueOrders", fn := fun _ => fun
  | [d] => { results := [.lit (.bool true)], args := [d] }
  | _ => none }
def queueOrdersRow : OpenClaim := { program := "ytelegodagepeeaadoor", sum := "2faec6443a64a22ddf50ca6f7b65eba3e5cb4516106291bbb1a844742fb45756", func := "tokenfold/foldlaw2.QueueOrders", spec := "queueOrders", inPlace := ["internal/reflectlite.ValueOf", "(internal/reflectlite.Value).Type", "(internal/reflectlite.Value).IsNil", "internal/reflectlite.TypeOf", "(internal/reflectlite.Value).Elem", "(internal/reflectlite.Value).Set"], unfollowed := true, recurses := true, named := ["errors.errorType"], apart := false, laid := [("errors.errorType", laid_errors_errorType)] }
def QueueOrdersSaid : Prop := queueOrdersRow.holds Tryd.pinned (OpenSpec.ofChange queueOrdersSpec)

/-- ITS FALSE NEIGHBOUR: 'it returns false'. Refute it at one input. -/
def queueOrdersWrong : ChangeSpec := { name := "queueOrders", fn := fun _ => fun
  | [d] => { results := [.lit (.bool false)], args := [d] }
  | _ => none }
def QueueOrdersWrongFalsely : Prop := queueOrdersRow.holds Tryd.pinned (OpenSpec.ofChange queueOrdersWrong)

/-- 'foldlaw2.IssuePlays': WHATEVER THE INPUT: true; the input reads as it did. -/
def issuePlaysSpec : ChangeSpec := { name := "issuePlays", fn := fun _ => fun
  | [d1, d2, d3] => { results := [.lit (.bool true)], args := [d1, d2, d3] }
  | _ => none }
def issuePlaysRow : OpenClaim := { program := "ytelegodagepeeaadoor", sum := "2faec6443a64a22ddf50ca6f7b65eba3e5cb4516106291bbb1a844742fb45756", func := "tokenfold/foldlaw2.IssuePlays", spec := "issuePlays", inPlace := ["internal/reflectlite.ValueOf", "(internal/reflectlite.Value).Type", "(internal/reflectlite.Value).IsNil", "internal/reflectlite.TypeOf", "(internal/reflectlite.Value).Elem", "(internal/reflectlite.Value).Set"], unfollowed := true, recurses := true, named := ["errors.errorType"], apart := false, laid := [("errors.errorType", laid_errors_errorType)] }
def IssuePlaysSaid : Prop := issuePlaysRow.holds Tryd.pinned (OpenSpec.ofChange issuePlaysSpec)

/-- ITS FALSE NEIGHBOUR: 'it returns false'. Refute it at one input. -/
def issuePlaysWrong : ChangeSpec := { name := "issuePlays", fn := fun _ => fun
  | [d1, d2, d3] => { results := [.lit (.bool false)], args := [d1, d2, d3] }
  | _ => none }
def IssuePlaysWrongFalsely : Prop := issuePlaysRow.holds Tryd.pinned (OpenSpec.ofChange issuePlaysWrong)

/-- 'foldlaw1.RingTwo': WHATEVER THE INPUT: true; the input reads as it did. -/
def ringTwoSpec : ChangeSpec := { name := "ringTwo", fn := fun _ => fun
  | [d1, d2] => { results := [.lit (.bool true)], args := [d1, d2] }
  | _ => none }
def ringTwoRow : OpenClaim := { program := "ytelegodagepeeaadoor", sum := "2faec6443a64a22ddf50ca6f7b65eba3e5cb4516106291bbb1a844742fb45756", func := "tokenfold/foldlaw1.RingTwo", spec := "ringTwo", inPlace := ["internal/reflectlite.ValueOf", "(internal/reflectlite.Value).Type", "(internal/reflectlite.Value).IsNil", "internal/reflectlite.TypeOf", "(internal/reflectlite.Value).Elem", "(internal/reflectlite.Value).Set"], unfollowed := true, recurses := true, named := ["errors.errorType"], apart := false, laid := [("errors.errorType", laid_errors_errorType)] }
def RingTwoSaid : Prop := ringTwoRow.holds Tryd.pinned (OpenSpec.ofChange ringTwoSpec)

/-- ITS FALSE NEIGHBOUR: 'it returns false'. Refute it at one input. -/
def ringTwoWrong : ChangeSpec := { name := "ringTwo", fn := fun _ => fun
  | [d1, d2] => { results := [.lit (.bool false)], args := [d1, d2] }
  | _ => none }
def RingTwoWrongFalsely : Prop := ringTwoRow.holds Tryd.pinned (OpenSpec.ofChange ringTwoWrong)

/-- 'foldlaw4.QueueFull': WHATEVER THE INPUT: true; the input reads as it did. -/
def queueFullSpec : ChangeSpec := { name := "queueFull", fn := fun _ => fun
  | [d] => { results := [.lit (.bool true)], args := [d] }
  | _ => none }
def queueFullRow : OpenClaim := { program := "ytelegodagepeeaadoor", sum := "2faec6443a64a22ddf50ca6f7b65eba3e5cb4516106291bbb1a844742fb45756", func := "tokenfold/foldlaw4.QueueFull", spec := "queueFull", inPlace := ["internal/reflectlite.ValueOf", "(internal/reflectlite.Value).Type", "(internal/reflectlite.Value).IsNil", "internal/reflectlite.TypeOf", "(internal/reflectlite.Value).Elem", "(internal/reflectlite.Value).Set"], unfollowed := true, recurses := true, named := ["errors.errorType"], apart := false, laid := [("errors.errorType", laid_errors_errorType)] }
def QueueFullSaid : Prop := queueFullRow.holds Tryd.pinned (OpenSpec.ofChange queueFullSpec)

/-- ITS FALSE NEIGHBOUR: 'it returns false'. Refute it at one input. -/
def queueFullWrong : ChangeSpec := { name := "queueFull", fn := fun _ => fun
  | [d] => { results := [.lit (.bool false)], args := [d] }
  | _ => none }
def QueueFullWrongFalsely : Prop := queueFullRow.holds Tryd.pinned (OpenSpec.ofChange queueFullWrong)

/-- 'foldlaw1.TokenTells': WHATEVER THE INPUT: true; the input reads as it did. -/
def tokenTellsSpec : ChangeSpec := { name := "tokenTells", fn := fun _ => fun
  | [d1, d2, d3, d4, d5, d6] => { results := [.lit (.bool true)], args := [d1, d2, d3, d4, d5, d6] }
  | _ => none }
def tokenTellsRow : OpenClaim := { program := "ytelegodagepeeaadoor", sum := "2faec6443a64a22ddf50ca6f7b65eba3e5cb4516106291bbb1a844742fb45756", func := "tokenfold/foldlaw1.TokenTells", spec := "tokenTells", inPlace := ["internal/reflectlite.ValueOf", "(internal/reflectlite.Value).Type", "(internal/reflectlite.Value).IsNil", "internal/reflectlite.TypeOf", "(internal/reflectlite.Value).Elem", "(internal/reflectlite.Value).Set"], unfollowed := true, recurses := true, named := ["errors.errorType"], apart := false, laid := [("errors.errorType", laid_errors_errorType)] }
def TokenTellsSaid : Prop := tokenTellsRow.holds Tryd.pinned (OpenSpec.ofChange tokenTellsSpec)

/-- ITS FALSE NEIGHBOUR: 'it returns false'. Refute it at one input. -/
def tokenTellsWrong : ChangeSpec := { name := "tokenTells", fn := fun _ => fun
  | [d1, d2, d3, d4, d5, d6] => { results := [.lit (.bool false)], args := [d1, d2, d3, d4, d5, d6] }
  | _ => none }
def TokenTellsWrongFalsely : Prop := tokenTellsRow.holds Tryd.pinned (OpenSpec.ofChange tokenTellsWrong)

/-- 'foldlaw4.TokenNow': WHATEVER THE INPUT: true; the input reads as it did. -/
def tokenNowSpec : ChangeSpec := { name := "tokenNow", fn := fun _ => fun
  | [d1, d2, d3] => { results := [.lit (.bool true)], args := [d1, d2, d3] }
  | _ => none }
def tokenNowRow : OpenClaim := { program := "ytelegodagepeeaadoor", sum := "2faec6443a64a22ddf50ca6f7b65eba3e5cb4516106291bbb1a844742fb45756", func := "tokenfold/foldlaw4.TokenNow", spec := "tokenNow", inPlace := ["internal/reflectlite.ValueOf", "(internal/reflectlite.Value).Type", "(internal/reflectlite.Value).IsNil", "internal/reflectlite.TypeOf", "(internal/reflectlite.Value).Elem", "(internal/reflectlite.Value).Set"], unfollowed := true, recurses := true, named := ["errors.errorType"], apart := false, laid := [("errors.errorType", laid_errors_errorType)] }
def TokenNowSaid : Prop := tokenNowRow.holds Tryd.pinned (OpenSpec.ofChange tokenNowSpec)

/-- ITS FALSE NEIGHBOUR: 'it returns false'. Refute it at one input. -/
def tokenNowWrong : ChangeSpec := { name := "tokenNow", fn := fun _ => fun
  | [d1, d2, d3] => { results := [.lit (.bool false)], args := [d1, d2, d3] }
  | _ => none }
def TokenNowWrongFalsely : Prop := tokenNowRow.holds Tryd.pinned (OpenSpec.ofChange tokenNowWrong)

/-- 'foldlaw1.TicketTells': WHATEVER THE INPUT: true; the input reads as it did. -/
def ticketTellsSpec : ChangeSpec := { name := "ticketTells", fn := fun _ => fun
  | [d1, d2, d3, d4, d5] => { results := [.lit (.bool true)], args := [d1, d2, d3, d4, d5] }
  | _ => none }
def ticketTellsRow : OpenClaim := { program := "ytelegodagepeeaadoor", sum := "2faec6443a64a22ddf50ca6f7b65eba3e5cb4516106291bbb1a844742fb45756", func := "tokenfold/foldlaw1.TicketTells", spec := "ticketTells", inPlace := ["internal/reflectlite.ValueOf", "(internal/reflectlite.Value).Type", "(internal/reflectlite.Value).IsNil", "internal/reflectlite.TypeOf", "(internal/reflectlite.Value).Elem", "(internal/reflectlite.Value).Set"], unfollowed := true, recurses := true, named := ["errors.errorType"], apart := false, laid := [("errors.errorType", laid_errors_errorType)] }
def TicketTellsSaid : Prop := ticketTellsRow.holds Tryd.pinned (OpenSpec.ofChange ticketTellsSpec)

/-- ITS FALSE NEIGHBOUR: 'it returns false'. Refute it at one input. -/
def ticketTellsWrong : ChangeSpec := { name := "ticketTells", fn := fun _ => fun
  | [d1, d2, d3, d4, d5] => { results := [.lit (.bool false)], args := [d1, d2, d3, d4, d5] }
  | _ => none }
def TicketTellsWrongFalsely : Prop := ticketTellsRow.holds Tryd.pinned (OpenSpec.ofChange ticketTellsWrong)

/-- 'foldlaw2.QueuePlays': WHATEVER THE INPUT: true; the input reads as it did. -/
def queuePlaysSpec : ChangeSpec := { name := "queuePlays", fn := fun _ => fun
  | [d1, d2] => { results := [.lit (.bool true)], args := [d1, d2] }
  | _ => none }
def queuePlaysRow : OpenClaim := { program := "ytelegodagepeeaadoor", sum := "2faec6443a64a22ddf50ca6f7b65eba3e5cb4516106291bbb1a844742fb45756", func := "tokenfold/foldlaw2.QueuePlays", spec := "queuePlays", inPlace := ["internal/reflectlite.ValueOf", "(internal/reflectlite.Value).Type", "(internal/reflectlite.Value).IsNil", "internal/reflectlite.TypeOf", "(internal/reflectlite.Value).Elem", "(internal/reflectlite.Value).Set"], unfollowed := true, recurses := true, named := ["errors.errorType"], apart := false, laid := [("errors.errorType", laid_errors_errorType)] }
def QueuePlaysSaid : Prop := queuePlaysRow.holds Tryd.pinned (OpenSpec.ofChange queuePlaysSpec)

/-- ITS FALSE NEIGHBOUR: 'it returns false'. Refute it at one input. -/
def queuePlaysWrong : ChangeSpec := { name := "queuePlays", fn := fun _ => fun
  | [d1, d2] => { results := [.lit (.bool false)], args := [d1, d2] }
  | _ => none }
def QueuePlaysWrongFalsely : Prop := queuePlaysRow.holds Tryd.pinned (OpenSpec.ofChange queuePlaysWrong)

/-- 'foldlaw1.TicketHolds': WHATEVER THE INPUT: true; the input reads as it did. -/
def ticketHoldsSpec : ChangeSpec := { name := "ticketHolds", fn := fun _ => fun
  | [d1, d2, d3, d4, d5] => { results := [.lit (.bool true)], args := [d1, d2, d3, d4, d5] }
  | _ => none }
def ticketHoldsRow : OpenClaim := { program := "ytelegodagepeeaadoor", sum := "2faec6443a64a22ddf50ca6f7b65eba3e5cb4516106291bbb1a844742fb45756", func := "tokenfold/foldlaw1.TicketHolds", spec := "ticketHolds", inPlace := ["internal/reflectlite.ValueOf", "(internal/reflectlite.Value).Type", "(internal/reflectlite.Value).IsNil", "internal/reflectlite.TypeOf", "(internal/reflectlite.Value).Elem", "(internal/reflectlite.Value).Set"], unfollowed := true, recurses := true, named := ["errors.errorType"], apart := false, laid := [("errors.errorType", laid_errors_errorType)] }
def TicketHoldsSaid : Prop := ticketHoldsRow.holds Tryd.pinned (OpenSpec.ofChange ticketHoldsSpec)

/-- ITS FALSE NEIGHBOUR: 'it returns false'. Refute it at one input. -/
def ticketHoldsWrong : ChangeSpec := { name := "ticketHolds", fn := fun _ => fun
  | [d1, d2, d3, d4, d5] => { results := [.lit (.bool false)], args := [d1, d2, d3, d4, d5] }
  | _ => none }
def TicketHoldsWrongFalsely : Prop := ticketHoldsRow.holds Tryd.pinned (OpenSpec.ofChange ticketHoldsWrong)

/-- 'foldlaw1.TokenHolds': WHATEVER THE INPUT: true; the input reads as it did. -/
def tokenHoldsSpec : ChangeSpec := { name := "tokenHolds", fn := fun _ => fun
  | [d1, d2, d3, d4, d5, d6, d7] => { results := [.lit (.bool true)], args := [d1, d2, d3, d4, d5, d6, d7] }
  | _ => none }
def tokenHoldsRow : OpenClaim := { program := "ytelegodagepeeaadoor", sum := "2faec6443a64a22ddf50ca6f7b65eba3e5cb4516106291bbb1a844742fb45756", func := "tokenfold/foldlaw1.TokenHolds", spec := "tokenHolds", inPlace := ["internal/reflectlite.ValueOf", "(internal/reflectlite.Value).Type", "(internal/reflectlite.Value).IsNil", "internal/reflectlite.TypeOf", "(internal/reflectlite.Value).Elem", "(internal/reflectlite.Value).Set"], unfollowed := true, recurses := true, named := ["errors.errorType"], apart := false, laid := [("errors.errorType", laid_errors_errorType)] }
def TokenHoldsSaid : Prop := tokenHoldsRow.holds Tryd.pinned (OpenSpec.ofChange tokenHoldsSpec)

/-- ITS FALSE NEIGHBOUR: 'it returns false'. Refute it at one input. -/
def tokenHoldsWrong : ChangeSpec := { name := "tokenHolds", fn := fun _ => fun
  | [d1, d2, d3, d4, d5, d6, d7] => { results := [.lit (.bool false)], args := [d1, d2, d3, d4, d5, d6, d7] }
  | _ => none }
def TokenHoldsWrongFalsely : Prop := tokenHoldsRow.holds Tryd.pinned (OpenSpec.ofChange tokenHoldsWrong)

/- THE SECOND FORM. 'bulk': how many values and letters a reading holds, each counted each time it is reached (what is shared counts as often as it is met; a slice's spare places count too). A statement '..UptoSaid' is the law's where the arguments, and the package variables that the reading takes, are together of bulk at most 1048576: NARROWER than '..Said'. Prove '..Said' where nothing that the law and all that it calls make is longer than what came in: it says more and counts as full. Else prove '..UptoSaid'. A law counts once. -/
mutual
def uptoBulk {H : Type} : DataW H → Nat
  | .lit (.string bytes) => bytes.length + 1
  | .lit _ => 1
  | .nil => 1
  | .ptr d => uptoBulk d + 1
  | .slice elems spare => uptoBulkAll elems + uptoBulkAll spare + 1
  | .agg parts => uptoBulkAll parts + 1
  | .iface _ d => uptoBulk d + 1
  | .map entries => uptoBulkEntries entries + 1
  | .held _ => 1
def uptoBulkAll {H : Type} : List (DataW H) → Nat
  | [] => 0
  | d :: r => uptoBulk d + uptoBulkAll r
def uptoBulkEntries {H : Type} : List (Lit × DataW H) → Nat
  | [] => 0
  | x :: r => uptoBulkEntry x + uptoBulkEntries r
def uptoBulkEntry {H : Type} : Lit × DataW H → Nat
  | (.string bytes, d) => bytes.length + uptoBulk d + 1
  | (_, d) => uptoBulk d + 1
 end
def uptoSmall : (H : Type) → List (DataW H) → Bool := fun _ ds => decide (uptoBulkAll ds ≤ 1048576)
def OpenSpec.upto (s : _root_.Go.ChangeSpec) : _root_.Go.OpenSpec := { _root_.Go.OpenSpec.ofChange s with cond := some uptoSmall }

/-- 'foldlaw1.WindowTells', WHERE WHAT IT READS IS OF BULK AT MOST 1048576: true; the input reads as it did. -/
def windowTellsUptoRow : OpenClaim := { program := "ytelegodagepeeaadoor", sum := "2faec6443a64a22ddf50ca6f7b65eba3e5cb4516106291bbb1a844742fb45756", func := "tokenfold/foldlaw1.WindowTells", spec := "windowTells", inPlace := ["internal/reflectlite.ValueOf", "(internal/reflectlite.Value).Type", "(internal/reflectlite.Value).IsNil", "internal/reflectlite.TypeOf", "(internal/reflectlite.Value).Elem", "(internal/reflectlite.Value).Set"], unfollowed := true, recurses := true, named := ["errors.errorType"], apart := false, laid := [("errors.errorType", laid_errors_errorType)], narrowed := true }
def WindowTellsUptoSaid : Prop := windowTellsUptoRow.holds Tryd.pinned (OpenSpec.upto windowTellsSpec)

/-- 'foldlaw1.WindowOnce', WHERE WHAT IT READS IS OF BULK AT MOST 1048576: true; the input reads as it did. -/
def windowOnceUptoRow : OpenClaim := { program := "ytelegodagepeeaadoor", sum := "2faec6443a64a22ddf50ca6f7b65eba3e5cb4516106291bbb1a844742fb45756", func := "tokenfold/foldlaw1.WindowOnce", spec := "windowOnce", inPlace := ["internal/reflectlite.ValueOf", "(internal/reflectlite.Value).Type", "(internal/reflectlite.Value).IsNil", "internal/reflectlite.TypeOf", "(internal/reflectlite.Value).Elem", "(internal/reflectlite.Value).Set"], unfollowed := true, recurses := true, named := ["errors.errorType"], apart := false, laid := [("errors.errorType", laid_errors_errorType)], narrowed := true }
def WindowOnceUptoSaid : Prop := windowOnceUptoRow.holds Tryd.pinned (OpenSpec.upto windowOnceSpec)

/-- 'foldlaw2.QueueOrders', WHERE WHAT IT READS IS OF BULK AT MOST 1048576: true; the input reads as it did. -/
def queueOrdersUptoRow : OpenClaim := { program := "ytelegodagepeeaadoor", sum := "2faec6443a64a22ddf50ca6f7b65eba3e5cb4516106291bbb1a844742fb45756", func := "tokenfold/foldlaw2.QueueOrders", spec := "queueOrders", inPlace := ["internal/reflectlite.ValueOf", "(internal/reflectlite.Value).Type", "(internal/reflectlite.Value).IsNil", "internal/reflectlite.TypeOf", "(internal/reflectlite.Value).Elem", "(internal/reflectlite.Value).Set"], unfollowed := true, recurses := true, named := ["errors.errorType"], apart := false, laid := [("errors.errorType", laid_errors_errorType)], narrowed := true }
def QueueOrdersUptoSaid : Prop := queueOrdersUptoRow.holds Tryd.pinned (OpenSpec.upto queueOrdersSpec)

/-- 'foldlaw2.IssuePlays', WHERE WHAT IT READS IS OF BULK AT MOST 1048576: true; the input reads as it did. -/
def issuePlaysUptoRow : OpenClaim := { program := "ytelegodagepeeaadoor", sum := "2faec6443a64a22ddf50ca6f7b65eba3e5cb4516106291bbb1a844742fb45756", func := "tokenfold/foldlaw2.IssuePlays", spec := "issuePlays", inPlace := ["internal/reflectlite.ValueOf", "(internal/reflectlite.Value).Type", "(internal/reflectlite.Value).IsNil", "internal/reflectlite.TypeOf", "(internal/reflectlite.Value).Elem", "(internal/reflectlite.Value).Set"], unfollowed := true, recurses := true, named := ["errors.errorType"], apart := false, laid := [("errors.errorType", laid_errors_errorType)], narrowed := true }
def IssuePlaysUptoSaid : Prop := issuePlaysUptoRow.holds Tryd.pinned (OpenSpec.upto issuePlaysSpec)

/-- 'foldlaw1.RingTwo', WHERE WHAT IT READS IS OF BULK AT MOST 1048576: true; the input reads as it did. -/
def ringTwoUptoRow : OpenClaim := { program := "ytelegodagepeeaadoor", sum := "2faec6443a64a22ddf50ca6f7b65eba3e5cb4516106291bbb1a844742fb45756", func := "tokenfold/foldlaw1.RingTwo", spec := "ringTwo", inPlace := ["internal/reflectlite.ValueOf", "(internal/reflectlite.Value).Type", "(internal/reflectlite.Value).IsNil", "internal/reflectlite.TypeOf", "(internal/reflectlite.Value).Elem", "(internal/reflectlite.Value).Set"], unfollowed := true, recurses := true, named := ["errors.errorType"], apart := false, laid := [("errors.errorType", laid_errors_errorType)], narrowed := true }
def RingTwoUptoSaid : Prop := ringTwoUptoRow.holds Tryd.pinned (OpenSpec.upto ringTwoSpec)

/-- 'foldlaw4.QueueFull', WHERE WHAT IT READS IS OF BULK AT MOST 1048576: true; the input reads as it did. -/
def queueFullUptoRow : OpenClaim := { program := "ytelegodagepeeaadoor", sum := "2faec6443a64a22ddf50ca6f7b65eba3e5cb4516106291bbb1a844742fb45756", func := "tokenfold/foldlaw4.QueueFull", spec := "queueFull", inPlace := ["internal/reflectlite.ValueOf", "(internal/reflectlite.Value).Type", "(internal/reflectlite.Value).IsNil", "internal/reflectlite.TypeOf", "(internal/reflectlite.Value).Elem", "(internal/reflectlite.Value).Set"], unfollowed := true, recurses := true, named := ["errors.errorType"], apart := false, laid := [("errors.errorType", laid_errors_errorType)], narrowed := true }
def QueueFullUptoSaid : Prop := queueFullUptoRow.holds Tryd.pinned (OpenSpec.upto queueFullSpec)

/-- 'foldlaw1.TokenTells', WHERE WHAT IT READS IS OF BULK AT MOST 1048576: true; the input reads as it did. -/
def tokenTellsUptoRow : OpenClaim := { program := "ytelegodagepeeaadoor", sum := "2faec6443a64a22ddf50ca6f7b65eba3e5cb4516106291bbb1a844742fb45756", func := "tokenfold/foldlaw1.TokenTells", spec := "tokenTells", inPlace := ["internal/reflectlite.ValueOf", "(internal/reflectlite.Value).Type", "(internal/reflectlite.Value).IsNil", "internal/reflectlite.TypeOf", "(internal/reflectlite.Value).Elem", "(internal/reflectlite.Value).Set"], unfollowed := true, recurses := true, named := ["errors.errorType"], apart := false, laid := [("errors.errorType", laid_errors_errorType)], narrowed := true }
def TokenTellsUptoSaid : Prop := tokenTellsUptoRow.holds Tryd.pinned (OpenSpec.upto tokenTellsSpec)

/-- 'foldlaw4.TokenNow', WHERE WHAT IT READS IS OF BULK AT MOST 1048576: true; the input reads as it did. -/
def tokenNowUptoRow : OpenClaim := { program := "ytelegodagepeeaadoor", sum := "2faec6443a64a22ddf50ca6f7b65eba3e5cb4516106291bbb1a844742fb45756", func := "tokenfold/foldlaw4.TokenNow", spec := "tokenNow", inPlace := ["internal/reflectlite.ValueOf", "(internal/reflectlite.Value).Type", "(internal/reflectlite.Value).IsNil", "internal/reflectlite.TypeOf", "(internal/reflectlite.Value).Elem", "(internal/reflectlite.Value).Set"], unfollowed := true, recurses := true, named := ["errors.errorType"], apart := false, laid := [("errors.errorType", laid_errors_errorType)], narrowed := true }
def TokenNowUptoSaid : Prop := tokenNowUptoRow.holds Tryd.pinned (OpenSpec.upto tokenNowSpec)

/-- 'foldlaw1.TicketTells', WHERE WHAT IT READS IS OF BULK AT MOST 1048576: true; the input reads as it did. -/
def ticketTellsUptoRow : OpenClaim := { program := "ytelegodagepeeaadoor", sum := "2faec6443a64a22ddf50ca6f7b65eba3e5cb4516106291bbb1a844742fb45756", func := "tokenfold/foldlaw1.TicketTells", spec := "ticketTells", inPlace := ["internal/reflectlite.ValueOf", "(internal/reflectlite.Value).Type", "(internal/reflectlite.Value).IsNil", "internal/reflectlite.TypeOf", "(internal/reflectlite.Value).Elem", "(internal/reflectlite.Value).Set"], unfollowed := true, recurses := true, named := ["errors.errorType"], apart := false, laid := [("errors.errorType", laid_errors_errorType)], narrowed := true }
def TicketTellsUptoSaid : Prop := ticketTellsUptoRow.holds Tryd.pinned (OpenSpec.upto ticketTellsSpec)

/-- 'foldlaw2.QueuePlays', WHERE WHAT IT READS IS OF BULK AT MOST 1048576: true; the input reads as it did. -/
def queuePlaysUptoRow : OpenClaim := { program := "ytelegodagepeeaadoor", sum := "2faec6443a64a22ddf50ca6f7b65eba3e5cb4516106291bbb1a844742fb45756", func := "tokenfold/foldlaw2.QueuePlays", spec := "queuePlays", inPlace := ["internal/reflectlite.ValueOf", "(internal/reflectlite.Value).Type", "(internal/reflectlite.Value).IsNil", "internal/reflectlite.TypeOf", "(internal/reflectlite.Value).Elem", "(internal/reflectlite.Value).Set"], unfollowed := true, recurses := true, named := ["errors.errorType"], apart := false, laid := [("errors.errorType", laid_errors_errorType)], narrowed := true }
def QueuePlaysUptoSaid : Prop := queuePlaysUptoRow.holds Tryd.pinned (OpenSpec.upto queuePlaysSpec)

/-- 'foldlaw1.TicketHolds', WHERE WHAT IT READS IS OF BULK AT MOST 1048576: true; the input reads as it did. -/
def ticketHoldsUptoRow : OpenClaim := { program := "ytelegodagepeeaadoor", sum := "2faec6443a64a22ddf50ca6f7b65eba3e5cb4516106291bbb1a844742fb45756", func := "tokenfold/foldlaw1.TicketHolds", spec := "ticketHolds", inPlace := ["internal/reflectlite.ValueOf", "(internal/reflectlite.Value).Type", "(internal/reflectlite.Value).IsNil", "internal/reflectlite.TypeOf", "(internal/reflectlite.Value).Elem", "(internal/reflectlite.Value).Set"], unfollowed := true, recurses := true, named := ["errors.errorType"], apart := false, laid := [("errors.errorType", laid_errors_errorType)], narrowed := true }
def TicketHoldsUptoSaid : Prop := ticketHoldsUptoRow.holds Tryd.pinned (OpenSpec.upto ticketHoldsSpec)

/-- 'foldlaw1.TokenHolds', WHERE WHAT IT READS IS OF BULK AT MOST 1048576: true; the input reads as it did. -/
def tokenHoldsUptoRow : OpenClaim := { program := "ytelegodagepeeaadoor", sum := "2faec6443a64a22ddf50ca6f7b65eba3e5cb4516106291bbb1a844742fb45756", func := "tokenfold/foldlaw1.TokenHolds", spec := "tokenHolds", inPlace := ["internal/reflectlite.ValueOf", "(internal/reflectlite.Value).Type", "(internal/reflectlite.Value).IsNil", "internal/reflectlite.TypeOf", "(internal/reflectlite.Value).Elem", "(internal/reflectlite.Value).Set"], unfollowed := true, recurses := true, named := ["errors.errorType"], apart := false, laid := [("errors.errorType", laid_errors_errorType)], narrowed := true }
def TokenHoldsUptoSaid : Prop := tokenHoldsUptoRow.holds Tryd.pinned (OpenSpec.upto tokenHoldsSpec)

end Rows
end Go.Proofs.YtelegodagepeeaaDoor
