/- load: Level, Needs by contracts. -/
import Derived.Test.YtlnghfmcofmkjaaGreatDoorRunAnswersProofM2
import Derived.Test.YtlnghfmcofmkjaaGreatDoorObj
import Derived.Handy
import Derived.Deep.QuietTactic
import Derived.BigQuiet
namespace Go.Proofs.YtlnghfmcofmkjaaGreatDoor
open Go.RowKit

/-- the level of so many that wait; the error -/
def levelOf (n : Int) : Int × Int := if n < 0 ∨ 8 < n then (0, 1) else if n < 4 then (0, 0) else if n < 8 then (1, 0) else (2, 0)
/-- what is answered; the error -/
def needsOf (n : Int) (t o : Bool) : Int × Int := if n < 0 ∨ 8 < n then (0, 1) else if n = 8 then (2, 0) else if 4 ≤ n ∧ t = false ∧ o = false then (0, 0) else (1, 0)

theorem levelAny (n : Int) (w : World) : Calls Tryz.prog 146 #[.int .i64 n] w fun e w' => e = .returned (.tuple #[.int .i64 (levelOf n).1, errV (levelOf n).2]) ∧ w = w' := by
  have hc : n < 0 ∨ 8 < n ∨ (0 ≤ n ∧ n < 4) ∨ (4 ≤ n ∧ n < 8) ∨ n = 8 := by omega
  rcases hc with h | h | ⟨h1, h2⟩ | ⟨h1, h2⟩ | rfl
  · have e : levelOf n = (0, 1) := by simp [levelOf, h]
    rw [e]
    go_enter Tryz.func146, Tryz.ntmps146
    go_wp2
    go_ret2
    exact ⟨rfl, rfl⟩
  · have e : levelOf n = (0, 1) := by simp [levelOf, h]
    rw [e]
    go_enter Tryz.func146, Tryz.ntmps146
    go_wp2
    go_ret2
    exact ⟨rfl, rfl⟩
  · have e : levelOf n = (0, 0) := by unfold levelOf; rw [if_neg (by omega), if_pos h2]
    rw [e]
    go_enter Tryz.func146, Tryz.ntmps146
    go_wp2
    go_ret2
    exact ⟨rfl, rfl⟩
  · have e : levelOf n = (1, 0) := by unfold levelOf; rw [if_neg (by omega), if_neg (by omega), if_pos h2]
    rw [e]
    go_enter Tryz.func146, Tryz.ntmps146
    go_wp2
    go_ret2
    exact ⟨rfl, rfl⟩
  · go_enter Tryz.func146, Tryz.ntmps146
    go_wp2
    go_ret2
    exact ⟨rfl, rfl⟩

theorem needsAny (n : Int) (t o : Bool) (w : World) : Calls Tryz.prog 127 #[.int .i64 n, .bool t, .bool o] w fun e w' => e = .returned (.tuple #[.int .i64 (needsOf n t o).1, errV (needsOf n t o).2]) ∧ w = w' := by
  have hc : n < 0 ∨ 8 < n ∨ (0 ≤ n ∧ n < 4) ∨ (4 ≤ n ∧ n < 8) ∨ n = 8 := by omega
  rcases hc with h | h | ⟨h1, h2⟩ | ⟨h1, h2⟩ | rfl
  · have e : needsOf n t o = (0, 1) := by simp [needsOf, h]
    rw [e]
    go_enter Tryz.func127, Tryz.ntmps127
    go_wp2
    go_ret2
    exact ⟨rfl, rfl⟩
  · have e : needsOf n t o = (0, 1) := by simp [needsOf, h]
    rw [e]
    go_enter Tryz.func127, Tryz.ntmps127
    go_wp2
    go_ret2
    exact ⟨rfl, rfl⟩
  · have e : needsOf n t o = (1, 0) := by unfold needsOf; rw [if_neg (by omega), if_neg (by omega), if_neg (by omega)]
    rw [e]
    go_enter Tryz.func127, Tryz.ntmps127
    go_wp2
    all_goals go_ret2
    all_goals exact ⟨rfl, rfl⟩
  · cases t
    · cases o
      · have e : needsOf n false false = (0, 0) := by unfold needsOf; rw [if_neg (by omega), if_neg (by omega), if_pos ⟨h1, rfl, rfl⟩]
        rw [e]
        go_enter Tryz.func127, Tryz.ntmps127
        go_wp2
        go_ret2
        exact ⟨rfl, rfl⟩
      · have e : needsOf n false true = (1, 0) := by unfold needsOf; rw [if_neg (by omega), if_neg (by omega), if_neg (by simp)]
        rw [e]
        go_enter Tryz.func127, Tryz.ntmps127
        go_wp2
        go_ret2
        exact ⟨rfl, rfl⟩
    · have e : needsOf n true o = (1, 0) := by unfold needsOf; rw [if_neg (by omega), if_neg (by omega), if_neg (by simp)]
      rw [e]
      go_enter Tryz.func127, Tryz.ntmps127
      go_wp2
      go_ret2
      exact ⟨rfl, rfl⟩
  · go_enter Tryz.func127, Tryz.ntmps127
    go_wp2
    all_goals go_ret2
    all_goals exact ⟨rfl, rfl⟩
end Go.Proofs.YtlnghfmcofmkjaaGreatDoor
