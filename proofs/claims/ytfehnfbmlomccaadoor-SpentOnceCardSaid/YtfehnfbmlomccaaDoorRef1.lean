/- foldref1: In, Tag, Tagged by contracts. -/
import Derived.Test.YtfehnfbmlomccaaDoorTag
namespace Go.Proofs.YtfehnfbmlomccaaDoor
open Go.RowKit

theorem rIn (n : Int) (w : World) : Calls Tryd.prog 26 #[.int .i64 n] w fun e w' => e = .returned (.bool (inB n)) ∧ w = w' := by
  have hc : n < 0 ∨ (0 ≤ n ∧ 999983 ≤ n) ∨ (0 ≤ n ∧ n < 999983) := by omega
  rcases hc with h | ⟨h1, h2⟩ | ⟨h1, h2⟩
  all_goals
    go_enter Tryd.func26, Tryd.ntmps26
    go_wp2
    go_ret
    exact ⟨retB (by first | exact (decide_eq_true (by omega)).symm | exact (decide_eq_false (by omega)).symm | (simp only [inB, decide_eq_decide]; omega)), rfl⟩
theorem rIn_eq {n : Int} {v : Bool} (h : inB n = v) (w : World) : Calls Tryd.prog 26 #[.int .i64 n] w fun e w' => e = .returned (.bool v) ∧ w = w' := by
  have g := rIn n w
  rwa [h] at g

end Go.Proofs.YtfehnfbmlomccaaDoor
