/- foldref2: Needs by contract; errors of load by number. -/
import Derived.Test.YtlnghfmcofmkjaaGreatDoorLoad
namespace Go.Proofs.YtlnghfmcofmkjaaGreatDoor
open Go.RowKit

theorem rNeeds (n : Int) (t o : Bool) (w : World) : Calls Tryz.prog 77 #[.int .i64 n, .bool t, .bool o] w fun e w' => e = .returned (.tuple #[.int .i64 (needsOf n t o).1, .int .i64 (needsOf n t o).2]) ∧ w = w' := by
  have hc : n < 0 ∨ 8 < n ∨ (0 ≤ n ∧ n < 4) ∨ (4 ≤ n ∧ n < 8) ∨ n = 8 := by omega
  rcases hc with h | h | ⟨h1, h2⟩ | ⟨h1, h2⟩ | rfl
  · have e : needsOf n t o = (0, 1) := by simp [needsOf, h]
    rw [e]
    go_enter Tryz.func77, Tryz.ntmps77
    go_wp2
    go_ret2
    exact ⟨rfl, rfl⟩
  · have e : needsOf n t o = (0, 1) := by simp [needsOf, h]
    rw [e]
    go_enter Tryz.func77, Tryz.ntmps77
    go_wp2
    go_ret2
    exact ⟨rfl, rfl⟩
  · have e : needsOf n t o = (1, 0) := by unfold needsOf; rw [if_neg (by omega), if_neg (by omega), if_neg (by omega)]
    rw [e]
    have t1 : (n == 8) = false := beq_eq_false_iff_ne.2 (by omega)
    go_enter Tryz.func77, Tryz.ntmps77
    go_wp2
    all_goals go_ret2
    all_goals exact ⟨rfl, rfl⟩
  · have t1 : (n == 8) = false := beq_eq_false_iff_ne.2 (by omega)
    cases t
    · cases o
      · have e : needsOf n false false = (0, 0) := by unfold needsOf; rw [if_neg (by omega), if_neg (by omega), if_pos ⟨h1, rfl, rfl⟩]
        rw [e]
        go_enter Tryz.func77, Tryz.ntmps77
        go_wp2
        go_ret2
        exact ⟨rfl, rfl⟩
      · have e : needsOf n false true = (1, 0) := by unfold needsOf; rw [if_neg (by omega), if_neg (by omega), if_neg (by simp)]
        rw [e]
        go_enter Tryz.func77, Tryz.ntmps77
        go_wp2
        go_ret2
        exact ⟨rfl, rfl⟩
    · have e : needsOf n true o = (1, 0) := by unfold needsOf; rw [if_neg (by omega), if_neg (by omega), if_neg (by simp)]
      rw [e]
      go_enter Tryz.func77, Tryz.ntmps77
      go_wp2
      go_ret2
      exact ⟨rfl, rfl⟩
  · go_enter Tryz.func77, Tryz.ntmps77
    go_wp2
    all_goals go_ret2
    all_goals exact ⟨rfl, rfl⟩
theorem rNeeds_eq {n v c : Int} {t o : Bool} (h : needsOf n t o = (v, c)) (w : World) : Calls Tryz.prog 77 #[.int .i64 n, .bool t, .bool o] w fun e w' => e = .returned (.tuple #[.int .i64 v, .int .i64 c]) ∧ w = w' := by
  have g := rNeeds n t o w
  rwa [h] at g
theorem needs_eq {n v c : Int} {t o : Bool} (h : needsOf n t o = (v, c)) (w : World) : Calls Tryz.prog 127 #[.int .i64 n, .bool t, .bool o] w fun e w' => e = .returned (.tuple #[.int .i64 v, errV c]) ∧ w = w' := by
  have g := needsAny n t o w
  rwa [h] at g
theorem level_eq {n v c : Int} (h : levelOf n = (v, c)) (w : World) : Calls Tryz.prog 146 #[.int .i64 n] w fun e w' => e = .returned (.tuple #[.int .i64 v, errV c]) ∧ w = w' := by
  have g := levelAny n w
  rwa [h] at g
end Go.Proofs.YtlnghfmcofmkjaaGreatDoor
