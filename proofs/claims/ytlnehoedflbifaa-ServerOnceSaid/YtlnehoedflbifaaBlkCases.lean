/- The two ways of a block's next number. -/
import Derived.Test.YtlnehoedflbifaaBlock
namespace Go.Proofs.Ytlnehoedflbifaa
theorem blkNext_cases (n m : Int) (h0 : 0 ≤ n) (h1 : n ≤ m) (h2 : m ≤ 1000) : (n = m ∧ 1000 < n + 8) ∨ ∃ n' m', blkNext n m = (n, 0, n', m') ∧ n < n' ∧ n' ≤ m' ∧ m' ≤ 1000 := by
  by_cases e : n = m
  · subst e
    by_cases g : 1000 < n + 8
    · exact .inl ⟨rfl, g⟩
    · exact .inr ⟨n + 1, n + 8, by simp [blkNext, g], by omega, by omega, by omega⟩
  · exact .inr ⟨n + 1, m, by simp [blkNext, e], by omega, by omega, h2⟩
end Go.Proofs.Ytlnehoedflbifaa
