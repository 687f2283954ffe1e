/- token: Time by contracts. -/
import Derived.Test.YtjbpkmmpbhngbaaGreatDoorRing
namespace Go.Proofs.YtjbpkmmpbhngbaaGreatDoor
open Go.RowKit

def tmB (n : Int) : Bool := decide (0 ≤ n ∧ n ≤ 100000)
theorem tmB_true {n : Int} : tmB n = true ↔ 0 ≤ n ∧ n ≤ 100000 := by simp [tmB]
theorem tmB_false {n : Int} : tmB n = false ↔ n < 0 ∨ 100000 < n := by simp [tmB]; omega
theorem tokenTime (n : Int) (w : World) : Calls Tryz.prog 51 #[.int .i64 n] w fun e w' => e = .returned (.bool (tmB n)) ∧ w = w' := by
  have hc : n < 0 ∨ (0 ≤ n ∧ 100000 < n) ∨ (0 ≤ n ∧ n ≤ 100000) := by omega
  rcases hc with h | ⟨h1, h2⟩ | ⟨h1, h2⟩
  all_goals
    go_enter Tryz.func51, Tryz.ntmps51
    go_wp2
    go_ret
    exact ⟨retB (by first | exact (decide_eq_true (by omega)).symm | exact (decide_eq_false (by omega)).symm | (simp only [tmB, decide_eq_decide]; omega)), rfl⟩
theorem tokenTime_eq {n : Int} {v : Bool} (h : tmB n = v) (w : World) : Calls Tryz.prog 51 #[.int .i64 n] w fun e w' => e = .returned (.bool v) ∧ w = w' := by
  have g := tokenTime n w
  rwa [h] at g
end Go.Proofs.YtjbpkmmpbhngbaaGreatDoor
