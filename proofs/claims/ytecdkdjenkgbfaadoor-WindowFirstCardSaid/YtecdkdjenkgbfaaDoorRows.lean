/-
  NARROWER THAN 'FOR EVERY INPUT', by the rows' own cells (each row's printed sentence says how): TopTurned: laid · WindowTells: laid · WindowOnce: laid · BucketTells: laid · WindowFirst: laid · QueueOrders: laid · RingFirst: laid · IssuePlays: laid · RingTells: laid · RingTwo: laid · QueueFull: laid · QueuePlays: laid.
  DERIVED. THE GIVEN ROWS OF THIS SEAT. 12 by the template 'for every input the law returns true; each argument reads behind the call as it read before'; 0 by the template 'total and deterministic' (their statements: YtecdkdjenkgbfaaDoorTotals.lean).
  GIVEN WITH THE SEED: the statements are not yours to turn. If you find one false, say at which input.
  Laid BY PROGRAM, IN A SANDBOX (cutbox-rows.mjs): the forced cells as the released guide's own fill.sh prints them over the translation aaa6fe79f5c9f9e5… (all of the seat's roots in one cut). By AI agents, Wed Nov 11 2026. No macro, syntax, notation, axiom, sorry.
-/
import Derived.Test.YtecdkdjenkgbfaaDoorChecked
import GoSem.Claim
import GoSem.ClaimJoined
import GoSem.ClaimMapViews
import Derived.JoinedTies
import Derived.KernelRfl
namespace Go.Proofs.YtecdkdjenkgbfaaDoor
/- THE CELL 'sum', in the pinned program and in every row, IS THE sha256 OF THE DUMP (.gsa) THAT YtecdkdjenkgbfaaDoorProg.lean LOADS. Nothing in Lean hashes anything: it is a label: what it is worth is what the hold of that sum in a sandbox is worth. -/
noncomputable def Tryd.pinned : Pinned := { name := "ytecdkdjenkgbfaadoor", sum := "aaa6fe79f5c9f9e5cefceb75744df2c97f374ee6feebcccf7687db42eeb76cc3", checked := Tryd.checked }
namespace Rows
def none {H : Type} : Left H := { results := [], args := [] }

/- WHAT THE LISTED PACKAGE-LEVEL VARIABLES READ AS WHEN THE CALL BEGINS. Each datum BY PROGRAM (the guide's laid-datum.mjs) off the statement by which the dump's own 'gosem.cut.vars' lays the variable. In a bare row this is a premise. The card (YtecdkdjenkgbfaaDoorCards.lean) ties it to the program's text. -/
def laid_errors_errorType {H : Type} : DataW H := .iface "internal/reflectlite.rtype" (.agg [.ptr (.lit (.string [101, 114, 114, 111, 114]))])

/-- 'foldtop.TopTurned': WHATEVER THE INPUT: true; the input reads as it did. -/
def topTurnedSpec : ChangeSpec := { name := "topTurned", fn := fun _ => fun
  | [d1, d2, d3, d4, d5] => { results := [.lit (.bool true)], args := [d1, d2, d3, d4, d5] }
  | _ => none }
def topTurnedRow : OpenClaim := { program := "ytecdkdjenkgbfaadoor", sum := "aaa6fe79f5c9f9e5cefceb75744df2c97f374ee6feebcccf7687db42eeb76cc3", func := "tokenfold/foldtop.TopTurned", spec := "topTurned", inPlace := ["internal/reflectlite.ValueOf", "(internal/reflectlite.Value).Type", "(internal/reflectlite.Value).IsNil", "internal/reflectlite.TypeOf", "(internal/reflectlite.Value).Elem", "(internal/reflectlite.Value).Set"], unfollowed := true, recurses := true, named := ["errors.errorType"], apart := false, laid := [("errors.errorType", laid_errors_errorType)] }
def TopTurnedSaid : Prop := topTurnedRow.holds Tryd.pinned (OpenSpec.ofChange topTurnedSpec)

/-- ITS FALSE NEIGHBOUR: 'it returns false'. Refute it at one input. -/
def topTurnedWrong : ChangeSpec := { name := "topTurned", fn := fun _ => fun
  | [d1, d2, d3, d4, d5] => { results := [.lit (.bool false)], args := [d1, d2, d3, d4, d5] }
  | _ => none }
def TopTurnedWrongFalsely : Prop := topTurnedRow.holds Tryd.pinned (OpenSpec.ofChange topTurnedWrong)

/-- 'foldlaw1.WindowTells': WHATEVER THE INPUT: true; the input reads as it did. -/
def windowTellsSpec : ChangeSpec := { name := "windowTells", fn := fun _ => fun
  | [d1, d2] => { results := [.lit (.bool true)], args := [d1, d2] }
  | _ => none }
def windowTellsRow : OpenClaim := { program := "ytecdkdjenkgbfaadoor", sum := "aaa6fe79f5c9f9e5cefceb75744df2c97f374ee6feebcccf7687db42eeb76cc3", func := "tokenfold/foldlaw1.WindowTells", spec := "windowTells", inPlace := ["internal/reflectlite.ValueOf", "(internal/reflectlite.Value).Type", "(internal/reflectlite.Value).IsNil", "internal/reflectlite.TypeOf", "(internal/reflectlite.Value).Elem", "(internal/reflectlite.Value).Set"], unfollowed := true, recurses := true, named := ["errors.errorType"], apart := false, laid := [("errors.errorType", laid_errors_errorType)] }
def WindowTellsSaid : Prop := windowTellsRow.holds Tryd.pinned (OpenSpec.ofChange windowTellsSpec)

/-- ITS FALSE NEIGHBOUR: 'it returns false'. Refute it at one input. -/
def windowTellsWrong : ChangeSpec := { name := "windowTells", fn := fun _ => fun
  | [d1, d2] => { results := [.lit (.bool false)], args := [d1, d2] }
  | _ => none }
def WindowTellsWrongFalsely : Prop := windowTellsRow.holds Tryd.pinned (OpenSpec.ofChange windowTellsWrong)

/-- 'foldlaw1.WindowOnce': WHATEVER THE INPUT: true; the input reads as it did. -/
def windowOnceSpec : ChangeSpec := { name := "windowOnce", fn := fun _ => fun
  | [d] => { results := [.lit (.bool true)], args := [d] }
  | _ => none }
def windowOnceRow : OpenClaim := { program := "ytecdkdjenkgbfaadoor", sum := "aaa6fe79f5c9f9e5cefceb75744df2c97f374ee6feebcccf7687db42eeb76cc3", func := "tokenfold/foldlaw1.WindowOnce", spec := "windowOnce", inPlace := ["internal/reflectlite.ValueOf", "(internal/reflectlite.Value).Type", "(internal/reflectlite.Value).IsNil", "internal/reflectlite.TypeOf", "(internal/reflectlite.Value).Elem", "(internal/reflectlite.Value).Set"], unfollowed := true, recurses := true, named := ["errors.errorType"], apart := false, laid := [("errors.errorType", laid_errors_errorType)] }
def WindowOnceSaid : Prop := windowOnceRow.holds Tryd.pinned (OpenSpec.ofChange windowOnceSpec)

/-- ITS FALSE NEIGHBOUR: 'it returns false'. Refute it at one input. -/
def windowOnceWrong : ChangeSpec := { name := "windowOnce", fn := fun _ => fun
  | [d] => { results := [.lit (.bool false)], args := [d] }
  | _ => none }
def WindowOnceWrongFalsely : Prop := windowOnceRow.holds Tryd.pinned (OpenSpec.ofChange windowOnceWrong)

/-- 'foldlaw1.BucketTells': WHATEVER THE INPUT: true; the input reads as it did. -/
def bucketTellsSpec : ChangeSpec := { name := "bucketTells", fn := fun _ => fun
  | [d1, d2, d3] => { results := [.lit (.bool true)], args := [d1, d2, d3] }
  | _ => none }
def bucketTellsRow : OpenClaim := { program := "ytecdkdjenkgbfaadoor", sum := "aaa6fe79f5c9f9e5cefceb75744df2c97f374ee6feebcccf7687db42eeb76cc3", func := "tokenfold/foldlaw1.BucketTells", spec := "bucketTells", inPlace := ["internal/reflectlite.ValueOf", "(internal/reflectlite.Value).Type", "(internal/reflectlite.Value).IsNil", "internal/reflectlite.TypeOf", "(internal/reflectlite.Value).Elem", "(internal/reflectlite.Value).Set"], unfollowed := true, recurses := true, named := ["errors.errorType"], apart := false, laid := [("errors.errorType", laid_errors_errorType)] }
def BucketTellsSaid : Prop := bucketTellsRow.holds Tryd.pinned (OpenSpec.ofChange bucketTellsSpec)

/-- ITS FALSE NEIGHBOUR: 'it returns false'. Refute it at one input. -/
def bucketTellsWrong : ChangeSpec := { name := "bucketTells", fn := fun _ => fun
  | [d1, d2, d3] => { results := [.lit (.bool false)], args := [d1, d2, d3] }
  | _ => none }
def BucketTellsWrongFalsely : Prop := bucketTellsRow.holds Tryd.pinned (OpenSpec.ofChange bucketTellsWrong)

/-- 'foldlaw4.WindowFirst': WHATEVER THE INPUT: true; the input reads as it did. -/
def windowFirstSpec : ChangeSpec := { name := "windowFirst", fn := fun _ => fun
  | [d] => { results := [.lit (.bool true)], args := [d] }
  | _ => none }
def windowFirstRow : OpenClaim := { program := "ytecdkdjenkgbfaadoor", sum := "aaa6fe79f5c9f9e5cefceb75744df2c97f374ee6feebcccf7687db42eeb76cc3", func := "tokenfold/foldlaw4.WindowFirst", spec := "windowFirst", inPlace := ["internal/reflectlite.ValueOf", "(internal/reflectlite.Value).Type", "(internal/reflectlite.Value).IsNil", "internal/reflectlite.TypeOf", "(internal/reflectlite.Value).Elem", "(internal/reflectlite.Value).Set"], unfollowed := true, recurses := true, named := ["errors.errorType"], apart := false, laid := [("errors.errorType", laid_errors_errorType)] }
def WindowFirstSaid : Prop := windowFirstRow.holds Tryd.pinned (OpenSpec.ofChange windowFirstSpec)

/-- ITS FALSE NEIGHBOUR: 'it returns false'. Refute it at one input. -/
def windowFirstWrong : ChangeSpec := { name := "windowFirst", fn := fun _ => fun
  | [d] => { results := [.lit (.bool false)], args := [d] }
  | _ => none }
def WindowFirstWrongFalsely : Prop := windowFirstRow.holds Tryd.pinned (OpenSpec.ofChange windowFirstWrong)

/-- 'foldlaw2.QueueOrders': WHATEVER THE INPUT: true; the input reads as it did. -/
def queueOrdersSpec : ChangeSpec := { name := "queueOrders", fn := fun _ => fun
  | [d] => { results := [.lit (.bool true)], args := [d] }
  | _ => none }
def queueOrdersRow : OpenClaim := { program := "ytecdkdjenkgbfaadoor", sum := "aaa6fe79f5c9f9e5cefceb75744df2c97f374ee6feebcccf7687db42eeb76cc3", func := "tokenfold/foldlaw2.QueueOrders", spec := "queueOrders", inPlace := ["internal/reflectlite.ValueOf", "(internal/reflectlite.Value).Type", "(internal/reflectlite.Value).IsNil", "internal/reflectlite.TypeOf", "(internal/reflectlite.Value).Elem", "(internal/reflectlite.Value).Set"], unfollowed := true, recurses := true, named := ["errors.errorType"], apart := false, laid := [("errors.errorType", laid_errors_errorType)] }
def QueueOrdersSaid : Prop := queueOrdersRow.holds Tryd.pinned (OpenSpec.ofChange queueOrdersSpec)

/-- ITS FALSE NEIGHBOUR: 'it returns false'. Refute it at one input. -/
def queueOrdersWrong : ChangeSpec := { name := "queueOrders", fn := fun _ => fun
  | [d] => { results := [.lit (.bool false)], args := [d] }
  | _ => none }
def QueueOrdersWrongFalsely : Prop := queueOrdersRow.holds Tryd.pinned (OpenSpec.ofChange queueOrdersWrong)

/-- 'foldlaw4.RingFirst': WHATEVER THE INPUT: true; the input reads as it did. -/
def ringFirstSpec : ChangeSpec := { name := "ringFirst", fn := fun _ => fun
  | [d] => { results := [.lit (.bool true)], args := [d] }
  | _ => none }
def ringFirstRow : OpenClaim := { program := "ytecdkdjenkgbfaadoor", sum := "aaa6fe79f5c9f9e5cefceb75744df2c97f374ee6feebcccf7687db42eeb76cc3", func := "tokenfold/foldlaw4.RingFirst", spec := "ringFirst", inPlace := ["internal/reflectlite.ValueOf", "(internal/reflectlite.Value).Type", "(internal/reflectlite.Value).IsNil", "internal/reflectlite.TypeOf", "(internal/reflectlite.Value).Elem", "(internal/reflectlite.Value).Set"], unfollowed := true, recurses := true, named := ["errors.errorType"], apart := false, laid := [("errors.errorType", laid_errors_errorType)] }
def RingFirstSaid : Prop := ringFirstRow.holds Tryd.pinned (OpenSpec.ofChange ringFirstSpec)

/-- ITS FALSE NEIGHBOUR: 'it returns false'. Refute it at one input. -/
def ringFirstWrong : ChangeSpec := { name := "ringFirst", fn := fun _ => fun
  | [d] => { results := [.lit (.bool false)], args := [d] }
  | _ => none }
def RingFirstWrongFalsely : Prop := ringFirstRow.holds Tryd.pinned (OpenSpec.ofChange ringFirstWrong)

/-- 'foldlaw2.IssuePlays': WHATEVER THE INPUT: true; the input reads as it did. -/
def issuePlaysSpec : ChangeSpec := { name := "issuePlays", fn := fun _ => fun
  | [d1, d2, d3] => { results := [.lit (.bool true)], args := [d1, d2, d3] }
  | _ => none }
def issuePlaysRow : OpenClaim := { program := "ytecdkdjenkgbfaadoor", sum := "aaa6fe79f5c9f9e5cefceb75744df2c97f374ee6feebcccf7687db42eeb76cc3", func := "tokenfold/foldlaw2.IssuePlays", spec := "issuePlays", inPlace := ["internal/reflectlite.ValueOf", "(internal/reflectlite.Value).Type", "(internal/reflectlite.Value).IsNil", "internal/reflectlite.TypeOf", "(internal/reflectlite.Value).Elem", "(internal/reflectlite.Value).Set"], unfollowed := true, recurses := true, named := ["errors.errorType"], apart := false, laid := [("errors.errorType", laid_errors_errorType)] }
def IssuePlaysSaid : Prop := issuePlaysRow.holds Tryd.pinned (OpenSpec.ofChange issuePlaysSpec)

/-- ITS FALSE NEIGHBOUR: 'it returns false'. Refute it at one input. -/
def issuePlaysWrong : ChangeSpec := { name := "issuePlays", fn := fun _ => fun
  | [d1, d2, d3] => { results := [.lit (.bool false)], args := [d1, d2, d3] }
  | _ => none }
def IssuePlaysWrongFalsely : Prop := issuePlaysRow.holds Tryd.pinned (OpenSpec.ofChange issuePlaysWrong)

/-- 'foldlaw1.RingTells': WHATEVER THE INPUT: true; the input reads as it did. -/
def ringTellsSpec : ChangeSpec := { name := "ringTells", fn := fun _ => fun
  | [d1, d2, d3] => { results := [.lit (.bool true)], args := [d1, d2, d3] }
  | _ => none }
def ringTellsRow : OpenClaim := { program := "ytecdkdjenkgbfaadoor", sum := "aaa6fe79f5c9f9e5cefceb75744df2c97f374ee6feebcccf7687db42eeb76cc3", func := "tokenfold/foldlaw1.RingTells", spec := "ringTells", inPlace := ["internal/reflectlite.ValueOf", "(internal/reflectlite.Value).Type", "(internal/reflectlite.Value).IsNil", "internal/reflectlite.TypeOf", "(internal/reflectlite.Value).Elem", "(internal/reflectlite.Value).Set"], unfollowed := true, recurses := true, named := ["errors.errorType"], apart := false, laid := [("errors.errorType", laid_errors_errorType)] }
def RingTellsSaid : Prop := ringTellsRow.holds Tryd.pinned (OpenSpec.ofChange ringTellsSpec)

/-- ITS FALSE NEIGHBOUR: 'it returns false'. Refute it at one input. -/
def ringTellsWrong : ChangeSpec := { name := "ringTells", fn := fun _ => fun
  | [d1, d2, d3] => { results := [.lit (.bool false)], args := [d1, d2, d3] }
  | _ => none }
def RingTellsWrongFalsely : Prop := ringTellsRow.holds Tryd.pinned (OpenSpec.ofChange ringTellsWrong)

/-- 'foldlaw1.RingTwo': WHATEVER THE INPUT: true; the input reads as it did. -/
def ringTwoSpec : ChangeSpec := { name := "ringTwo", fn := fun _ => fun
  | [d1, d2] => { results := [.lit (.bool true)], args := [d1, d2] }
  | _ => none }
def ringTwoRow : OpenClaim := { program := "ytecdkdjenkgbfaadoor", sum := "aaa6fe79f5c9f9e5cefceb75744df2c97f374ee6feebcccf7687db42eeb76cc3", func := "tokenfold/foldlaw1.RingTwo", spec := "ringTwo", inPlace := ["internal/reflectlite.ValueOf", "(internal/reflectlite.Value).Type", "(internal/reflectlite.Value).IsNil", "internal/reflectlite.TypeOf", "(internal/reflectlite.Value).Elem", "(internal/reflectlite.Value).Set"], unfollowed := true, recurses := true, named := ["errors.errorType"], apart := false, laid := [("errors.errorType", laid_errors_errorType)] }
def RingTwoSaid : Prop := ringTwoRow.holds Tryd.pinned (OpenSpec.ofChange ringTwoSpec)

/-- ITS FALSE NEIGHBOUR: 'it returns false'. Refute it at one input. -/
def ringTwoWrong : ChangeSpec := { name := "ringTwo", fn := fun _ => fun
  | [d1, d2] => { results := [.lit (.bool false)], args := [d1, d2] }
  | _ => none }
def RingTwoWrongFalsely : Prop := ringTwoRow.holds Tryd.pinned (OpenSpec.ofChange ringTwoWrong)

/-- 'foldlaw4.QueueFull': WHATEVER THE INPUT: true; the input reads as it did. -/
def queueFullSpec : ChangeSpec := { name := "queueFull", fn := fun _ => fun
  | [d] => { results := [.lit (.bool true)], args := [d] }
  | _ => none }
def queueFullRow : OpenClaim := { program := "ytecdkdjenkgbfaadoor", sum := "aaa6fe79f5c9f9e5cefceb75744df2c97f374ee6feebcccf7687db42eeb76cc3", func := "tokenfold/foldlaw4.QueueFull", spec := "queueFull", inPlace := ["internal/reflectlite.ValueOf", "(internal/reflectlite.Value).Type", "(internal/reflectlite.Value).IsNil", "internal/reflectlite.TypeOf", "(internal/reflectlite.Value).Elem", "(internal/reflectlite.Value).Set"], unfollowed := true, recurses := true, named := ["errors.errorType"], apart := false, laid := [("errors.errorType", laid_errors_errorType)] }
def QueueFullSaid : Prop := queueFullRow.holds Tryd.pinned (OpenSpec.ofChange queueFullSpec)

/-- ITS FALSE NEIGHBOUR: 'it returns false'. Refute it at one input. -/
def queueFullWrong : ChangeSpec := { name := "queueFull", fn := fun _ => fun
  | [d] => { results := [.lit (.bool false)], args := [d] }
  | _ => none }
def QueueFullWrongFalsely : Prop := queueFullRow.holds Tryd.pinned (OpenSpec.ofChange queueFullWrong)

/-- 'foldlaw2.QueuePlays': WHATEVER THE INPUT: true; the input reads as it did. -/
def queuePlaysSpec : ChangeSpec := { name := "queuePlays", fn := fun _ => fun
  | [d1, d2] => { results := [.lit (.bool true)], args := [d1, d2] }
  | _ => none }
def queuePlaysRow : OpenClaim := { program := "ytecdkdjenkgbfaadoor", sum := "aaa6fe79f5c9f9e5cefceb75744df2c97f374ee6feebcccf7687db42eeb76cc3", func := "tokenfold/foldlaw2.QueuePlays", spec := "queuePlays", inPlace := ["internal/reflectlite.ValueOf", "(internal/reflectlite.Value).Type", "(internal/reflectlite.Value).IsNil", "internal/reflectlite.TypeOf", "(internal/reflectlite.Value).Elem", "(internal/reflectlite.Value).Set"], unfollowed := true, recurses := true, named := ["errors.errorType"], apart := false, laid := [("errors.errorType", laid_errors_errorType)] }
def QueuePlaysSaid : Prop := queuePlaysRow.holds Tryd.pinned (OpenSpec.ofChange queuePlaysSpec)

/-- ITS FALSE NEIGHBOUR: 'it returns false'. Refute it at one input. -/
def queuePlaysWrong : ChangeSpec := { name := "queuePlays", fn := fun _ => fun
  | [d1, d2] => { results := [.lit (.bool false)], args := [d1, d2] }
  | _ => none }
def QueuePlaysWrongFalsely : Prop := queuePlaysRow.holds Tryd.pinned (OpenSpec.ofChange queuePlaysWrong)

/- THE SECOND FORM. 'bulk': how many values and letters a reading holds, each counted each time it is reached (what is shared counts as often as it is met; a slice's spare places count too). A statement '..UptoSaid' is the law's where the arguments, and the package variables that the reading takes, are together of bulk at most 1048576: NARROWER than '..Said'. Prove '..Said' where nothing that the law and all that it calls make is longer than what came in: it says more and counts as full. Else prove '..UptoSaid'. A law counts once. -/
mutual
def uptoBulk {H : Type} : DataW H → Nat
  | .lit (.string bytes) => bytes.length + 1
  | .lit _ => 1
  | .nil => 1
  | .ptr d => uptoBulk d + 1
  | .slice elems spare => uptoBulkAll elems + uptoBulkAll spare + 1
  | .agg parts => uptoBulkAll parts + 1
  | .iface _ d => uptoBulk d + 1
  | .map entries => uptoBulkEntries entries + 1
  | .held _ => 1
def uptoBulkAll {H : Type} : List (DataW H) → Nat
  | [] => 0
  | d :: r => uptoBulk d + uptoBulkAll r
def uptoBulkEntries {H : Type} : List (Lit × DataW H) → Nat
  | [] => 0
  | x :: r => uptoBulkEntry x + uptoBulkEntries r
def uptoBulkEntry {H : Type} : Lit × DataW H → Nat
  | (.string bytes, d) => bytes.length + uptoBulk d + 1
  | (_, d) => uptoBulk d + 1
 end
def uptoSmall : (H : Type) → List (DataW H) → Bool := fun _ ds => decide (uptoBulkAll ds ≤ 1048576)
def OpenSpec.upto (s : _root_.Go.ChangeSpec) : _root_.Go.OpenSpec := { _root_.Go.OpenSpec.ofChange s with cond := some uptoSmall }

/-- 'foldtop.TopTurned', WHERE WHAT IT READS IS OF BULK AT MOST 1048576: true; the input reads as it did. -/
def topTurnedUptoRow : OpenClaim := { program := "ytecdkdjenkgbfaadoor", sum := "aaa6fe79f5c9f9e5cefceb75744df2c97f374ee6feebcccf7687db42eeb76cc3", func := "tokenfold/foldtop.TopTurned", spec := "topTurned", inPlace := ["internal/reflectlite.ValueOf", "(internal/reflectlite.Value).Type", "(internal/reflectlite.Value).IsNil", "internal/reflectlite.TypeOf", "(internal/reflectlite.Value).Elem", "(internal/reflectlite.Value).Set"], unfollowed := true, recurses := true, named := ["errors.errorType"], apart := false, laid := [("errors.errorType", laid_errors_errorType)], narrowed := true }
def TopTurnedUptoSaid : Prop := topTurnedUptoRow.holds Tryd.pinned (OpenSpec.upto topTurnedSpec)

/-- 'foldlaw1.WindowTells', WHERE WHAT IT READS IS OF BULK AT MOST 1048576: true; the input reads as it did. -/
def windowTellsUptoRow : OpenClaim := { program := "ytecdkdjenkgbfaadoor", sum := "aaa6fe79f5c9f9e5cefceb75744df2c97f374ee6feebcccf7687db42eeb76cc3", func := "tokenfold/foldlaw1.WindowTells", spec := "windowTells", inPlace := ["internal/reflectlite.ValueOf", "(internal/reflectlite.Value).Type", "(internal/reflectlite.Value).IsNil", "internal/reflectlite.TypeOf", "(internal/reflectlite.Value).Elem", "(internal/reflectlite.Value).Set"], unfollowed := true, recurses := true, named := ["errors.errorType"], apart := false, laid := [("errors.errorType", laid_errors_errorType)], narrowed := true }
def WindowTellsUptoSaid : Prop := windowTellsUptoRow.holds Tryd.pinned (OpenSpec.upto windowTellsSpec)

/-- 'foldlaw1.WindowOnce', WHERE WHAT IT READS IS OF BULK AT MOST 1048576: true; the input reads as it did. -/
def windowOnceUptoRow : OpenClaim := { program := "ytecdkdjenkgbfaadoor", sum := "aaa6fe79f5c9f9e5cefceb75744df2c97f374ee6feebcccf7687db42eeb76cc3", func := "tokenfold/foldlaw1.WindowOnce", spec := "windowOnce", inPlace := ["internal/reflectlite.ValueOf", "(internal/reflectlite.Value).Type", "(internal/reflectlite.Value).IsNil", "internal/reflectlite.TypeOf", "(internal/reflectlite.Value).Elem", "(internal/reflectlite.Value).Set"], unfollowed := true, recurses := true, named := ["errors.errorType"], apart := false, laid := [("errors.errorType", laid_errors_errorType)], narrowed := true }
def WindowOnceUptoSaid : Prop := windowOnceUptoRow.holds Tryd.pinned (OpenSpec.upto windowOnceSpec)

/-- 'foldlaw1.BucketTells', WHERE WHAT IT READS IS OF BULK AT MOST 1048576: true; the input reads as it did. -/
def bucketTellsUptoRow : OpenClaim := { program := "ytecdkdjenkgbfaadoor", sum := "aaa6fe79f5c9f9e5cefceb75744df2c97f374ee6feebcccf7687db42eeb76cc3", func := "tokenfold/foldlaw1.BucketTells", spec := "bucketTells", inPlace := ["internal/reflectlite.ValueOf", "(internal/reflectlite.Value).Type", "(internal/reflectlite.Value).IsNil", "internal/reflectlite.TypeOf", "(internal/reflectlite.Value).Elem", "(internal/reflectlite.Value).Set"], unfollowed := true, recurses := true, named := ["errors.errorType"], apart := false, laid := [("errors.errorType", laid_errors_errorType)], narrowed := true }
def BucketTellsUptoSaid : Prop := bucketTellsUptoRow.holds Tryd.pinned (OpenSpec.upto bucketTellsSpec)

/-- 'foldlaw4.WindowFirst', WHERE WHAT IT READS IS OF BULK AT MOST 1048576: true; the input reads as it did. -/
def windowFirstUptoRow : OpenClaim := { program := "ytecdkdjenkgbfaadoor", sum := "aaa6fe79f5c9f9e5cefceb75744df2c97f374ee6feebcccf7687db42eeb76cc3", func := "tokenfold/foldlaw4.WindowFirst", spec := "windowFirst", inPlace := ["internal/reflectlite.ValueOf", "(internal/reflectlite.Value).Type", "(internal/reflectlite.Value).IsNil", "internal/reflectlite.TypeOf", "(internal/reflectlite.Value).Elem", "(internal/reflectlite.Value).Set"], unfollowed := true, recurses := true, named := ["errors.errorType"], apart := false, laid := [("errors.errorType", laid_errors_errorType)], narrowed := true }
def WindowFirstUptoSaid : Prop := windowFirstUptoRow.holds Tryd.pinned (OpenSpec.upto windowFirstSpec)

/-- 'foldlaw2.QueueOrders', WHERE WHAT IT READS IS OF BULK AT MOST 1048576: true; the input reads as it did. -/
def queueOrdersUptoRow : OpenClaim := { program := "ytecdkdjenkgbfaadoor", sum := "aaa6fe79f5c9f9e5cefceb75744df2c97f374ee6feebcccf7687db42eeb76cc3", func := "tokenfold/foldlaw2.QueueOrders", spec := "queueOrders", inPlace := ["internal/reflectlite.ValueOf", "(internal/reflectlite.Value).Type", "(internal/reflectlite.Value).IsNil", "internal/reflectlite.TypeOf", "(internal/reflectlite.Value).Elem", "(internal/reflectlite.Value).Set"], unfollowed := true, recurses := true, named := ["errors.errorType"], apart := false, laid := [("errors.errorType", laid_errors_errorType)], narrowed := true }
def QueueOrdersUptoSaid : Prop := queueOrdersUptoRow.holds Tryd.pinned (OpenSpec.upto queueOrdersSpec)

/-- 'foldlaw4.RingFirst', WHERE WHAT IT READS IS OF BULK AT MOST 1048576: true; the input reads as it did. -/
def ringFirstUptoRow : OpenClaim := { program := "ytecdkdjenkgbfaadoor", sum := "aaa6fe79f5c9f9e5cefceb75744df2c97f374ee6feebcccf7687db42eeb76cc3", func := "tokenfold/foldlaw4.RingFirst", spec := "ringFirst", inPlace := ["internal/reflectlite.ValueOf", "(internal/reflectlite.Value).Type", "(internal/reflectlite.Value).IsNil", "internal/reflectlite.TypeOf", "(internal/reflectlite.Value).Elem", "(internal/reflectlite.Value).Set"], unfollowed := true, recurses := true, named := ["errors.errorType"], apart := false, laid := [("errors.errorType", laid_errors_errorType)], narrowed := true }
def RingFirstUptoSaid : Prop := ringFirstUptoRow.holds Tryd.pinned (OpenSpec.upto ringFirstSpec)

/-- 'foldlaw2.IssuePlays', WHERE WHAT IT READS IS OF BULK AT MOST 1048576: true; the input reads as it did. -/
def issuePlaysUptoRow : OpenClaim := { program := "ytecdkdjenkgbfaadoor", sum := "aaa6fe79f5c9f9e5cefceb75744df2c97f374ee6feebcccf7687db42eeb76cc3", func := "tokenfold/foldlaw2.IssuePlays", spec := "issuePlays", inPlace := ["internal/reflectlite.ValueOf", "(internal/reflectlite.Value).Type", "(internal/reflectlite.Value).IsNil", "internal/reflectlite.TypeOf", "(internal/reflectlite.Value).Elem", "(internal/reflectlite.Value).Set"], unfollowed := true, recurses := true, named := ["errors.errorType"], apart := false, laid := [("errors.errorType", laid_errors_errorType)], narrowed := true }
def IssuePlaysUptoSaid : Prop := issuePlaysUptoRow.holds Tryd.pinned (OpenSpec.upto issuePlaysSpec)

/-- 'foldlaw1.RingTells', WHERE WHAT IT READS IS OF BULK AT MOST 1048576: true; the input reads as it did. -/
def ringTellsUptoRow : OpenClaim := { program := "ytecdkdjenkgbfaadoor", sum := "aaa6fe79f5c9f9e5cefceb75744df2c97f374ee6feebcccf7687db42eeb76cc3", func := "tokenfold/foldlaw1.RingTells", spec := "ringTells", inPlace := ["internal/reflectlite.ValueOf", "(internal/reflectlite.Value).Type", "(internal/reflectlite.Value).IsNil", "internal/reflectlite.TypeOf", "(internal/reflectlite.Value).Elem", "(internal/reflectlite.Value).Set"], unfollowed := true, recurses := true, named := ["errors.errorType"], apart := false, laid := [("errors.errorType", laid_errors_errorType)], narrowed := true }
def RingTellsUptoSaid : Prop := ringTellsUptoRow.holds Tryd.pinned (OpenSpec.upto ringTellsSpec)

/-- 'foldlaw1.RingTwo', WHERE WHAT IT READS IS OF BULK AT MOST 1048576: true; the input reads as it did. -/
def ringTwoUptoRow : OpenClaim := { program := "ytecdkdjenkgbfaadoor", sum := "aaa6fe79f5c9f9e5cefceb75744df2c97f374ee6feebcccf7687db42eeb76cc3", func := "tokenfold/foldlaw1.RingTwo", spec := "ringTwo", inPlace := ["internal/reflectlite.ValueOf", "(internal/reflectlite.Value).Type", "(internal/reflectlite.Value).IsNil", "internal/reflectlite.TypeOf", "(internal/reflectlite.Value).Elem", "(internal/reflectlite.Value).Set"], unfollowed := true, recurses := true, named := ["errors.errorType"], apart := false, laid := [("errors.errorType", laid_errors_errorType)], narrowed := true }
def RingTwoUptoSaid : Prop := ringTwoUptoRow.holds Tryd.pinned (OpenSpec.upto ringTwoSpec)

/-- 'foldlaw4.QueueFull', WHERE WHAT IT READS IS OF BULK AT MOST 1048576: true; the input reads as it did. -/
def queueFullUptoRow : OpenClaim := { program := "ytecdkdjenkgbfaadoor", sum := "aaa6fe79f5c9f9e5cefceb75744df2c97f374ee6feebcccf7687db42eeb76cc3", func := "tokenfold/foldlaw4.QueueFull", spec := "queueFull", inPlace := ["internal/reflectlite.ValueOf", "(internal/reflectlite.Value).Type", "(internal/reflectlite.Value).IsNil", "internal/reflectlite.TypeOf", "(internal/reflectlite.Value).Elem", "(internal/reflectlite.Value).Set"], unfollowed := true, recurses := true, named := ["errors.errorType"], apart := false, laid := [("errors.errorType", laid_errors_errorType)], narrowed := true }
def QueueFullUptoSaid : Prop := queueFullUptoRow.holds Tryd.pinned (OpenSpec.upto queueFullSpec)

/-- 'foldlaw2.QueuePlays', WHERE WHAT IT READS IS OF BULK AT MOST 1048576: true; the input reads as it did. -/
def queuePlaysUptoRow : OpenClaim := { program := "ytecdkdjenkgbfaadoor", sum := "aaa6fe79f5c9f9e5cefceb75744df2c97f374ee6feebcccf7687db42eeb76cc3", func := "tokenfold/foldlaw2.QueuePlays", spec := "queuePlays", inPlace := ["internal/reflectlite.ValueOf", "(internal/reflectlite.Value).Type", "(internal/reflectlite.Value).IsNil", "internal/reflectlite.TypeOf", "(internal/reflectlite.Value).Elem", "(internal/reflectlite.Value).Set"], unfollowed := true, recurses := true, named := ["errors.errorType"], apart := false, laid := [("errors.errorType", laid_errors_errorType)], narrowed := true }
def QueuePlaysUptoSaid : Prop := queuePlaysUptoRow.holds Tryd.pinned (OpenSpec.upto queuePlaysSpec)

end Rows
end Go.Proofs.YtecdkdjenkgbfaaDoor
