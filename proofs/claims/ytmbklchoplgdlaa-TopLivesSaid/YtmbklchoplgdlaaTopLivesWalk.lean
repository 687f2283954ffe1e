/- The walk of TopLives. -/
import Derived.Test.YtmbklchoplgdlaaTopLives1
import Derived.Test.YtmbklchoplgdlaaTopLives0
namespace Go.Proofs.Ytmbklchoplgdlaa
open Go.RowKit
theorem walkTopLives (w : World) (key : Int) (_w0 : (Lit.int .i64 key).wf = true) (a : Option Addr) (len cap : Nat) (zs : List Int) (h1 : len ≤ cap) (h2 : cap ≤ maxLen) (hr0 : IntRow w a len zs) (s r h t : Int) (_w1 : (Lit.int .i64 s).wf = true) (_w2 : (Lit.int .i64 r).wf = true) (_w3 : (Lit.int .i64 h).wf = true) (_w4 : (Lit.int .i64 t).wf = true) :
    Calls Try.prog 3 #[.int .i64 key, .slice a len cap, .agg #[.int .i64 s, .int .i64 r, .int .i64 h, .int .i64 t]] w fun e w' => e = .returned (.bool true) ∧ Below w.heap.size w w' := by
  cases hb : buckB s r h t
  · exact walkTopLives0 w key a len cap zs h1 h2 hr0 s r h t hb
  · exact walkTopLives1 w key a len cap zs h1 h2 hr0 s r h t hb
end Go.Proofs.Ytmbklchoplgdlaa
