/- conn: Right by contract. -/
import Derived.Test.YtlnehoedflbifaaErrV
import Derived.Test.YtlnehoedflbifaaPlain
import Derived.Test.YtlnehoedflbifaaObj
import Derived.Handy
import Derived.Deep.QuietTactic
import Derived.BigQuiet
namespace Go.Proofs.Ytlnehoedflbifaa
open Go.RowKit

/-- is a conn right? -/
def connB (s n : Int) : Bool := decide (0 ≤ s ∧ s < 16 ∧ 0 ≤ n ∧ n < 4096)
theorem connRight (s n : Int) (w : World) : Calls Try.prog 25 #[.agg #[.int .i64 s, .int .i64 n]] w fun e w' => e = .returned (.bool (connB s n)) ∧ Below w.heap.size w w' := by
  have hc : s < 0 ∨ (0 ≤ s ∧ 16 ≤ s) ∨ (0 ≤ s ∧ s < 16 ∧ n < 0) ∨ (0 ≤ s ∧ s < 16 ∧ 0 ≤ n ∧ 4096 ≤ n) ∨ (0 ≤ s ∧ s < 16 ∧ 0 ≤ n ∧ n < 4096) := by omega
  rcases hc with h | ⟨h1, h2⟩ | ⟨h1, h2, h3⟩ | ⟨h1, h2, h3, h4⟩ | ⟨h1, h2, h3, h4⟩
  all_goals
    go_enter Try.func25, Try.ntmps25
    go_wp2
    go_ret
    exact ⟨retB (by first | exact (decide_eq_true (by omega)).symm | exact (decide_eq_false (by omega)).symm | (simp only [connB, decide_eq_decide]; omega)), by go_grown⟩

theorem connRight_eq {s n : Int} {v : Bool} (h : connB s n = v) (w : World) : Calls Try.prog 25 #[.agg #[.int .i64 s, .int .i64 n]] w fun e w' => e = .returned (.bool v) ∧ Below w.heap.size w w' := by
  have g := connRight s n w
  rwa [h] at g

end Go.Proofs.Ytlnehoedflbifaa
