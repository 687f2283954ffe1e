/-
  NARROWER THAN 'FOR EVERY INPUT', by the rows' own cells (each row's printed sentence says how): LifePlays: laid · EarlyBounds: laid · EarlyPlays: laid · LoadTells: laid · ConnTells: laid · ResetTells: laid · TagTells: laid.
  DERIVED. THE GIVEN ROWS OF THIS SEAT. 7 by the template 'for every input the law returns true; each argument reads behind the call as it read before'; 0 by the template 'total and deterministic' (their statements: YtnfgeidiglldkaaDoorTotals.lean).
  GIVEN WITH THE SEED: the statements are not yours to turn. If you find one false, say at which input.
  Laid BY PROGRAM, IN A SANDBOX (cutbox-rows.mjs): the forced cells as the released guide's own fill.sh prints them over the translation 331f8b79c039cbd3… (all of the seat's roots in one cut). By AI agents, Wed Nov 11 2026. No macro, syntax, notation, axiom, sorry.
-/
import Derived.Test.YtnfgeidiglldkaaDoorChecked
import GoSem.Claim
import GoSem.ClaimJoined
import GoSem.ClaimMapViews
import Derived.JoinedTies
import Derived.KernelRfl
namespace Go.Proofs.YtnfgeidiglldkaaDoor
/- THE CELL 'sum', in the pinned program and in every row, IS THE sha256 OF THE DUMP (.gsa) THAT YtnfgeidiglldkaaDoorProg.lean LOADS. Nothing in Lean hashes anything: it is a label: what it is worth is what the hold of that sum in a sandbox is worth. -/
noncomputable def Tryd.pinned : Pinned := { name := "ytnfgeidiglldkaadoor", sum := "331f8b79c039cbd3c4231f1314a25f874f10fff0f7f2cbcfffe9e3a076ce50cf", checked := Tryd.checked }
namespace Rows
def none {H : Type} : Left H := { results := [], args := [] }

/- WHAT THE LISTED PACKAGE-LEVEL VARIABLES READ AS WHEN THE CALL BEGINS. Each datum BY PROGRAM (the guide's laid-datum.mjs) off the statement by which the dump's own 'gosem.cut.vars' lays the variable. In a bare row this is a premise. The card (YtnfgeidiglldkaaDoorCards.lean) ties it to the program's text. -/
def laid_errors_errorType {H : Type} : DataW H := .iface "internal/reflectlite.rtype" (.agg [.ptr (.lit (.string [101, 114, 114, 111, 114]))])

/-- 'foldlaw1.LifePlays': WHATEVER THE INPUT: true; the input reads as it did. -/
def lifePlaysSpec : ChangeSpec := { name := "lifePlays", fn := fun _ => fun
  | [d] => { results := [.lit (.bool true)], args := [d] }
  | _ => none }
def lifePlaysRow : OpenClaim := { program := "ytnfgeidiglldkaadoor", sum := "331f8b79c039cbd3c4231f1314a25f874f10fff0f7f2cbcfffe9e3a076ce50cf", func := "tokenfold/foldlaw1.LifePlays", spec := "lifePlays", inPlace := ["internal/reflectlite.ValueOf", "(internal/reflectlite.Value).Type", "(internal/reflectlite.Value).IsNil", "internal/reflectlite.TypeOf", "(internal/reflectlite.Value).Elem", "(internal/reflectlite.Value).Set"], unfollowed := true, recurses := true, named := ["errors.errorType"], apart := false, laid := [("errors.errorType", laid_errors_errorType)] }
def LifePlaysSaid : Prop := lifePlaysRow.holds Tryd.pinned (OpenSpec.ofChange lifePlaysSpec)

/-- ITS FALSE NEIGHBOUR: 'it returns false'. Refute it at one input. -/
def lifePlaysWrong : ChangeSpec := { name := "lifePlays", fn := fun _ => fun
  | [d] => { results := [.lit (.bool false)], args := [d] }
  | _ => none }
def LifePlaysWrongFalsely : Prop := lifePlaysRow.holds Tryd.pinned (OpenSpec.ofChange lifePlaysWrong)

/-- 'foldlaw2.EarlyBounds': WHATEVER THE INPUT: true; the input reads as it did. -/
def earlyBoundsSpec : ChangeSpec := { name := "earlyBounds", fn := fun _ => fun
  | [d1, d2] => { results := [.lit (.bool true)], args := [d1, d2] }
  | _ => none }
def earlyBoundsRow : OpenClaim := { program := "ytnfgeidiglldkaadoor", sum := "331f8b79c039cbd3c4231f1314a25f874f10fff0f7f2cbcfffe9e3a076ce50cf", func := "tokenfold/foldlaw2.EarlyBounds", spec := "earlyBounds", inPlace := ["internal/reflectlite.ValueOf", "(internal/reflectlite.Value).Type", "(internal/reflectlite.Value).IsNil", "internal/reflectlite.TypeOf", "(internal/reflectlite.Value).Elem", "(internal/reflectlite.Value).Set"], unfollowed := true, recurses := true, named := ["errors.errorType"], apart := false, laid := [("errors.errorType", laid_errors_errorType)] }
def EarlyBoundsSaid : Prop := earlyBoundsRow.holds Tryd.pinned (OpenSpec.ofChange earlyBoundsSpec)

/-- ITS FALSE NEIGHBOUR: 'it returns false'. Refute it at one input. -/
def earlyBoundsWrong : ChangeSpec := { name := "earlyBounds", fn := fun _ => fun
  | [d1, d2] => { results := [.lit (.bool false)], args := [d1, d2] }
  | _ => none }
def EarlyBoundsWrongFalsely : Prop := earlyBoundsRow.holds Tryd.pinned (OpenSpec.ofChange earlyBoundsWrong)

/-- 'foldlaw2.EarlyPlays': WHATEVER THE INPUT: true; the input reads as it did. -/
def earlyPlaysSpec : ChangeSpec := { name := "earlyPlays", fn := fun _ => fun
  | [d1, d2, d3] => { results := [.lit (.bool true)], args := [d1, d2, d3] }
  | _ => none }
def earlyPlaysRow : OpenClaim := { program := "ytnfgeidiglldkaadoor", sum := "331f8b79c039cbd3c4231f1314a25f874f10fff0f7f2cbcfffe9e3a076ce50cf", func := "tokenfold/foldlaw2.EarlyPlays", spec := "earlyPlays", inPlace := ["internal/reflectlite.ValueOf", "(internal/reflectlite.Value).Type", "(internal/reflectlite.Value).IsNil", "internal/reflectlite.TypeOf", "(internal/reflectlite.Value).Elem", "(internal/reflectlite.Value).Set"], unfollowed := true, recurses := true, named := ["errors.errorType"], apart := false, laid := [("errors.errorType", laid_errors_errorType)] }
def EarlyPlaysSaid : Prop := earlyPlaysRow.holds Tryd.pinned (OpenSpec.ofChange earlyPlaysSpec)

/-- ITS FALSE NEIGHBOUR: 'it returns false'. Refute it at one input. -/
def earlyPlaysWrong : ChangeSpec := { name := "earlyPlays", fn := fun _ => fun
  | [d1, d2, d3] => { results := [.lit (.bool false)], args := [d1, d2, d3] }
  | _ => none }
def EarlyPlaysWrongFalsely : Prop := earlyPlaysRow.holds Tryd.pinned (OpenSpec.ofChange earlyPlaysWrong)

/-- 'foldlaw2.LoadTells': WHATEVER THE INPUT: true; the input reads as it did. -/
def loadTellsSpec : ChangeSpec := { name := "loadTells", fn := fun _ => fun
  | [d1, d2, d3] => { results := [.lit (.bool true)], args := [d1, d2, d3] }
  | _ => none }
def loadTellsRow : OpenClaim := { program := "ytnfgeidiglldkaadoor", sum := "331f8b79c039cbd3c4231f1314a25f874f10fff0f7f2cbcfffe9e3a076ce50cf", func := "tokenfold/foldlaw2.LoadTells", spec := "loadTells", inPlace := ["internal/reflectlite.ValueOf", "(internal/reflectlite.Value).Type", "(internal/reflectlite.Value).IsNil", "internal/reflectlite.TypeOf", "(internal/reflectlite.Value).Elem", "(internal/reflectlite.Value).Set"], unfollowed := true, recurses := true, named := ["errors.errorType"], apart := false, laid := [("errors.errorType", laid_errors_errorType)] }
def LoadTellsSaid : Prop := loadTellsRow.holds Tryd.pinned (OpenSpec.ofChange loadTellsSpec)

/-- ITS FALSE NEIGHBOUR: 'it returns false'. Refute it at one input. -/
def loadTellsWrong : ChangeSpec := { name := "loadTells", fn := fun _ => fun
  | [d1, d2, d3] => { results := [.lit (.bool false)], args := [d1, d2, d3] }
  | _ => none }
def LoadTellsWrongFalsely : Prop := loadTellsRow.holds Tryd.pinned (OpenSpec.ofChange loadTellsWrong)

/-- 'foldlaw1.ConnTells': WHATEVER THE INPUT: true; the input reads as it did. -/
def connTellsSpec : ChangeSpec := { name := "connTells", fn := fun _ => fun
  | [d1, d2, d3] => { results := [.lit (.bool true)], args := [d1, d2, d3] }
  | _ => none }
def connTellsRow : OpenClaim := { program := "ytnfgeidiglldkaadoor", sum := "331f8b79c039cbd3c4231f1314a25f874f10fff0f7f2cbcfffe9e3a076ce50cf", func := "tokenfold/foldlaw1.ConnTells", spec := "connTells", inPlace := ["internal/reflectlite.ValueOf", "(internal/reflectlite.Value).Type", "(internal/reflectlite.Value).IsNil", "internal/reflectlite.TypeOf", "(internal/reflectlite.Value).Elem", "(internal/reflectlite.Value).Set"], unfollowed := true, recurses := true, named := ["errors.errorType"], apart := false, laid := [("errors.errorType", laid_errors_errorType)] }
def ConnTellsSaid : Prop := connTellsRow.holds Tryd.pinned (OpenSpec.ofChange connTellsSpec)

/-- ITS FALSE NEIGHBOUR: 'it returns false'. Refute it at one input. -/
def connTellsWrong : ChangeSpec := { name := "connTells", fn := fun _ => fun
  | [d1, d2, d3] => { results := [.lit (.bool false)], args := [d1, d2, d3] }
  | _ => none }
def ConnTellsWrongFalsely : Prop := connTellsRow.holds Tryd.pinned (OpenSpec.ofChange connTellsWrong)

/-- 'foldlaw1.ResetTells': WHATEVER THE INPUT: true; the input reads as it did. -/
def resetTellsSpec : ChangeSpec := { name := "resetTells", fn := fun _ => fun
  | [d1, d2, d3] => { results := [.lit (.bool true)], args := [d1, d2, d3] }
  | _ => none }
def resetTellsRow : OpenClaim := { program := "ytnfgeidiglldkaadoor", sum := "331f8b79c039cbd3c4231f1314a25f874f10fff0f7f2cbcfffe9e3a076ce50cf", func := "tokenfold/foldlaw1.ResetTells", spec := "resetTells", inPlace := ["internal/reflectlite.ValueOf", "(internal/reflectlite.Value).Type", "(internal/reflectlite.Value).IsNil", "internal/reflectlite.TypeOf", "(internal/reflectlite.Value).Elem", "(internal/reflectlite.Value).Set"], unfollowed := true, recurses := true, named := ["errors.errorType"], apart := false, laid := [("errors.errorType", laid_errors_errorType)] }
def ResetTellsSaid : Prop := resetTellsRow.holds Tryd.pinned (OpenSpec.ofChange resetTellsSpec)

/-- ITS FALSE NEIGHBOUR: 'it returns false'. Refute it at one input. -/
def resetTellsWrong : ChangeSpec := { name := "resetTells", fn := fun _ => fun
  | [d1, d2, d3] => { results := [.lit (.bool false)], args := [d1, d2, d3] }
  | _ => none }
def ResetTellsWrongFalsely : Prop := resetTellsRow.holds Tryd.pinned (OpenSpec.ofChange resetTellsWrong)

/-- 'foldlaw1.TagTells': WHATEVER THE INPUT: true; the input reads as it did. -/
def tagTellsSpec : ChangeSpec := { name := "tagTells", fn := fun _ => fun
  | [d1, d2, d3] => { results := [.lit (.bool true)], args := [d1, d2, d3] }
  | _ => none }
def tagTellsRow : OpenClaim := { program := "ytnfgeidiglldkaadoor", sum := "331f8b79c039cbd3c4231f1314a25f874f10fff0f7f2cbcfffe9e3a076ce50cf", func := "tokenfold/foldlaw1.TagTells", spec := "tagTells", inPlace := ["internal/reflectlite.ValueOf", "(internal/reflectlite.Value).Type", "(internal/reflectlite.Value).IsNil", "internal/reflectlite.TypeOf", "(internal/reflectlite.Value).Elem", "(internal/reflectlite.Value).Set"], unfollowed := true, recurses := true, named := ["errors.errorType"], apart := false, laid := [("errors.errorType", laid_errors_errorType)] }
def TagTellsSaid : Prop := tagTellsRow.holds Tryd.pinned (OpenSpec.ofChange tagTellsSpec)

/-- ITS FALSE NEIGHBOUR: 'it returns false'. Refute it at one input. -/
def tagTellsWrong : ChangeSpec := { name := "tagTells", fn := fun _ => fun
  | [d1, d2, d3] => { results := [.lit (.bool false)], args := [d1, d2, d3] }
  | _ => none }
def TagTellsWrongFalsely : Prop := tagTellsRow.holds Tryd.pinned (OpenSpec.ofChange tagTellsWrong)

/- THE SECOND FORM. 'bulk': how many values and letters a reading holds, each counted each time it is reached (what is shared counts as often as it is met; a slice's spare places count too). A statement '..UptoSaid' is the law's where the arguments, and the package variables that the reading takes, are together of bulk at most 1048576: NARROWER than '..Said'. Prove '..Said' where nothing that the law and all that it calls make is longer than what came in: it says more and counts as full. Else prove '..UptoSaid'. A law counts once. -/
mutual
def uptoBulk {H : Type} : DataW H → Nat
  | .lit (.string bytes) => bytes.length + 1
  | .lit _ => 1
  | .nil => 1
  | .ptr d => uptoBulk d + 1
  | .slice elems spare => uptoBulkAll elems + uptoBulkAll spare + 1
  | .agg parts => uptoBulkAll parts + 1
  | .iface _ d => uptoBulk d + 1
  | .map entries => uptoBulkEntries entries + 1
  | .held _ => 1
def uptoBulkAll {H : Type} : List (DataW H) → Nat
  | [] => 0
  | d :: r => uptoBulk d + uptoBulkAll r
def uptoBulkEntries {H : Type} : List (Lit × DataW H) → Nat
  | [] => 0
  | x :: r => uptoBulkEntry x + uptoBulkEntries r
def uptoBulkEntry {H : Type} : Lit × DataW H → Nat
  | (.string bytes, d) => bytes.length + uptoBulk d + 1
  | (_, d) => uptoBulk d + 1
 end
def uptoSmall : (H : Type) → List (DataW H) → Bool := fun _ ds => decide (uptoBulkAll ds ≤ 1048576)
def OpenSpec.upto (s : _root_.Go.ChangeSpec) : _root_.Go.OpenSpec := { _root_.Go.OpenSpec.ofChange s with cond := some uptoSmall }

/-- 'foldlaw1.LifePlays', WHERE WHAT IT READS IS OF BULK AT MOST 1048576: true; the input reads as it did. -/
def lifePlaysUptoRow : OpenClaim := { program := "ytnfgeidiglldkaadoor", sum := "331f8b79c039cbd3c4231f1314a25f874f10fff0f7f2cbcfffe9e3a076ce50cf", func := "tokenfold/foldlaw1.LifePlays", spec := "lifePlays", inPlace := ["internal/reflectlite.ValueOf", "(internal/reflectlite.Value).Type", "(internal/reflectlite.Value).IsNil", "internal/reflectlite.TypeOf", "(internal/reflectlite.Value).Elem", "(internal/reflectlite.Value).Set"], unfollowed := true, recurses := true, named := ["errors.errorType"], apart := false, laid := [("errors.errorType", laid_errors_errorType)], narrowed := true }
def LifePlaysUptoSaid : Prop := lifePlaysUptoRow.holds Tryd.pinned (OpenSpec.upto lifePlaysSpec)

/-- 'foldlaw2.EarlyBounds', WHERE WHAT IT READS IS OF BULK AT MOST 1048576: true; the input reads as it did. -/
def earlyBoundsUptoRow : OpenClaim := { program := "ytnfgeidiglldkaadoor", sum := "331f8b79c039cbd3c4231f1314a25f874f10fff0f7f2cbcfffe9e3a076ce50cf", func := "tokenfold/foldlaw2.EarlyBounds", spec := "earlyBounds", inPlace := ["internal/reflectlite.ValueOf", "(internal/reflectlite.Value).Type", "(internal/reflectlite.Value).IsNil", "internal/reflectlite.TypeOf", "(internal/reflectlite.Value).Elem", "(internal/reflectlite.Value).Set"], unfollowed := true, recurses := true, named := ["errors.errorType"], apart := false, laid := [("errors.errorType", laid_errors_errorType)], narrowed := true }
def EarlyBoundsUptoSaid : Prop := earlyBoundsUptoRow.holds Tryd.pinned (OpenSpec.upto earlyBoundsSpec)

/-- 'foldlaw2.EarlyPlays', WHERE WHAT IT READS IS OF BULK AT MOST 1048576: true; the input reads as it did. -/
def earlyPlaysUptoRow : OpenClaim := { program := "ytnfgeidiglldkaadoor", sum := "331f8b79c039cbd3c4231f1314a25f874f10fff0f7f2cbcfffe9e3a076ce50cf", func := "tokenfold/foldlaw2.EarlyPlays", spec := "earlyPlays", inPlace := ["internal/reflectlite.ValueOf", "(internal/reflectlite.Value).Type", "(internal/reflectlite.Value).IsNil", "internal/reflectlite.TypeOf", "(internal/reflectlite.Value).Elem", "(internal/reflectlite.Value).Set"], unfollowed := true, recurses := true, named := ["errors.errorType"], apart := false, laid := [("errors.errorType", laid_errors_errorType)], narrowed := true }
def EarlyPlaysUptoSaid : Prop := earlyPlaysUptoRow.holds Tryd.pinned (OpenSpec.upto earlyPlaysSpec)

/-- 'foldlaw2.LoadTells', WHERE WHAT IT READS IS OF BULK AT MOST 1048576: true; the input reads as it did. -/
def loadTellsUptoRow : OpenClaim := { program := "ytnfgeidiglldkaadoor", sum := "331f8b79c039cbd3c4231f1314a25f874f10fff0f7f2cbcfffe9e3a076ce50cf", func := "tokenfold/foldlaw2.LoadTells", spec := "loadTells", inPlace := ["internal/reflectlite.ValueOf", "(internal/reflectlite.Value).Type", "(internal/reflectlite.Value).IsNil", "internal/reflectlite.TypeOf", "(internal/reflectlite.Value).Elem", "(internal/reflectlite.Value).Set"], unfollowed := true, recurses := true, named := ["errors.errorType"], apart := false, laid := [("errors.errorType", laid_errors_errorType)], narrowed := true }
def LoadTellsUptoSaid : Prop := loadTellsUptoRow.holds Tryd.pinned (OpenSpec.upto loadTellsSpec)

/-- 'foldlaw1.ConnTells', WHERE WHAT IT READS IS OF BULK AT MOST 1048576: true; the input reads as it did. -/
def connTellsUptoRow : OpenClaim := { program := "ytnfgeidiglldkaadoor", sum := "331f8b79c039cbd3c4231f1314a25f874f10fff0f7f2cbcfffe9e3a076ce50cf", func := "tokenfold/foldlaw1.ConnTells", spec := "connTells", inPlace := ["internal/reflectlite.ValueOf", "(internal/reflectlite.Value).Type", "(internal/reflectlite.Value).IsNil", "internal/reflectlite.TypeOf", "(internal/reflectlite.Value).Elem", "(internal/reflectlite.Value).Set"], unfollowed := true, recurses := true, named := ["errors.errorType"], apart := false, laid := [("errors.errorType", laid_errors_errorType)], narrowed := true }
def ConnTellsUptoSaid : Prop := connTellsUptoRow.holds Tryd.pinned (OpenSpec.upto connTellsSpec)

/-- 'foldlaw1.ResetTells', WHERE WHAT IT READS IS OF BULK AT MOST 1048576: true; the input reads as it did. -/
def resetTellsUptoRow : OpenClaim := { program := "ytnfgeidiglldkaadoor", sum := "331f8b79c039cbd3c4231f1314a25f874f10fff0f7f2cbcfffe9e3a076ce50cf", func := "tokenfold/foldlaw1.ResetTells", spec := "resetTells", inPlace := ["internal/reflectlite.ValueOf", "(internal/reflectlite.Value).Type", "(internal/reflectlite.Value).IsNil", "internal/reflectlite.TypeOf", "(internal/reflectlite.Value).Elem", "(internal/reflectlite.Value).Set"], unfollowed := true, recurses := true, named := ["errors.errorType"], apart := false, laid := [("errors.errorType", laid_errors_errorType)], narrowed := true }
def ResetTellsUptoSaid : Prop := resetTellsUptoRow.holds Tryd.pinned (OpenSpec.upto resetTellsSpec)

/-- 'foldlaw1.TagTells', WHERE WHAT IT READS IS OF BULK AT MOST 1048576: true; the input reads as it did. -/
def tagTellsUptoRow : OpenClaim := { program := "ytnfgeidiglldkaadoor", sum := "331f8b79c039cbd3c4231f1314a25f874f10fff0f7f2cbcfffe9e3a076ce50cf", func := "tokenfold/foldlaw1.TagTells", spec := "tagTells", inPlace := ["internal/reflectlite.ValueOf", "(internal/reflectlite.Value).Type", "(internal/reflectlite.Value).IsNil", "internal/reflectlite.TypeOf", "(internal/reflectlite.Value).Elem", "(internal/reflectlite.Value).Set"], unfollowed := true, recurses := true, named := ["errors.errorType"], apart := false, laid := [("errors.errorType", laid_errors_errorType)], narrowed := true }
def TagTellsUptoSaid : Prop := tagTellsUptoRow.holds Tryd.pinned (OpenSpec.upto tagTellsSpec)

end Rows
end Go.Proofs.YtnfgeidiglldkaaDoor
