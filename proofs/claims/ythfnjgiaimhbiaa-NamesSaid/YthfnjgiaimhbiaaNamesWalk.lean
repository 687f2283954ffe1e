/- The walk of Names. -/
import Derived.Test.YthfnjgiaimhbiaaErrV
import Derived.Test.YthfnjgiaimhbiaaObj
import Derived.Handy
namespace Go.Proofs.Ythfnjgiaimhbiaa
open Go.RowKit
set_option maxHeartbeats 4000000 in
theorem walkNames (w : World) :
    Calls Try.prog 12 #[] w fun e w' => e = .returned (.bool true) ∧ Below w.heap.size w w' := by
  go_enter Try.func12, Try.ntmps12
  go_wp2_with fail
  go_rounds 11
  all_goals go_ret
  all_goals exact ⟨rfl, by go_grown⟩
end Go.Proofs.Ythfnjgiaimhbiaa
