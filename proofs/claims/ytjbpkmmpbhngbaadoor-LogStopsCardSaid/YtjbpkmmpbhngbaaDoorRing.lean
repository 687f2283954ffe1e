/- ring: Epoch, Check by contracts. -/
import Derived.Test.YtjbpkmmpbhngbaaDoorTag
namespace Go.Proofs.YtjbpkmmpbhngbaaDoor
open Go.RowKit

def epB (n : Int) : Bool := decide (0 ≤ n ∧ n ≤ 100)
theorem epB_true {n : Int} : epB n = true ↔ 0 ≤ n ∧ n ≤ 100 := by simp [epB]
theorem epB_false {n : Int} : epB n = false ↔ n < 0 ∨ 100 < n := by simp [epB]; omega
/-- the fault of a ring -/
def ringE (e k o : Int) : Int := if epB e && inB k && inB o then (if e = 0 ∧ o ≠ 0 then 3 else 0) else 1

theorem ringE_cases (e k o : Int) : ringE e k o = 0 ∨ ringE e k o = 1 ∨ ringE e k o = 3 := by
  unfold ringE; split
  · split <;> simp
  · simp
theorem ringE_ok {e k o : Int} (h : ringE e k o = 0) : (0 ≤ e ∧ e ≤ 100) ∧ (0 ≤ k ∧ k < 999983) ∧ (0 ≤ o ∧ o < 999983) ∧ (e = 0 → o = 0) := by
  unfold ringE at h
  split at h
  · rename_i hh
    simp only [Bool.and_eq_true] at hh
    obtain ⟨⟨h1, h2⟩, h3⟩ := hh
    refine ⟨epB_true.1 h1, inB_true.1 h2, inB_true.1 h3, fun he => ?_⟩
    split at h
    · omega
    · rename_i hn
      exact Classical.byContradiction fun ho => hn ⟨he, ho⟩
  · omega
end Go.Proofs.YtjbpkmmpbhngbaaDoor
