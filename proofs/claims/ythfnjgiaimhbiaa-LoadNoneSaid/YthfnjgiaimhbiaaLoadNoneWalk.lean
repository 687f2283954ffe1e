/- The walk of LoadNone. -/
import Derived.Test.YthfnjgiaimhbiaaLoad
namespace Go.Proofs.Ythfnjgiaimhbiaa
open Go.RowKit
theorem walkLoadNone (w : World) (a0 a1 : Bool) :
    Calls Try.prog 7 #[.bool a0, .bool a1] w fun e w' => e = .returned (.bool true) ∧ Below w.heap.size w w' := by
  have n0 : ∀ W, Calls Try.prog 26 #[.int .i64 0, .bool a0, .bool a1] W fun e w' => e = .returned (.tuple #[.int .i64 1, .nilIface]) ∧ W = w' := fun W => by
    have h := needsAny 0 a0 a1 W
    rwa [show needsOf 0 a0 a1 = (1, 0) by simp [needsOf]] at h
  have n8 : ∀ W, Calls Try.prog 26 #[.int .i64 8, .bool a0, .bool a1] W fun e w' => e = .returned (.tuple #[.int .i64 2, .nilIface]) ∧ W = w' := fun W => by
    have h := needsAny 8 a0 a1 W
    rwa [show needsOf 8 a0 a1 = (2, 0) by simp [needsOf]] at h
  have N0 := hide n0
  have N8 := hide n8
  clear n0 n8
  go_enter Try.func7, Try.ntmps7
  go_wp2_with fail
  refine (N0.out _).mono ?_
  rintro e w' ⟨rfl, rfl⟩
  go_wp2_with fail
  refine (N8.out _).mono ?_
  rintro e w' ⟨rfl, rfl⟩
  go_wp2
  go_ret
  exact ⟨rfl, Below.refl _ _⟩
end Go.Proofs.Ythfnjgiaimhbiaa
