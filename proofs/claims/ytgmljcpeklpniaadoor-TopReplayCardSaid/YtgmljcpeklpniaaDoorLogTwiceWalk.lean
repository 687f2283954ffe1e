/- The walk of LogTwice. -/
import Derived.Test.YtgmljcpeklpniaaDoorLog2
import Derived.Test.YtgmljcpeklpniaaDoorErr
namespace Go.Proofs.YtgmljcpeklpniaaDoor
open Go.RowKit

theorem lt_again {n u now : Int} (h : spMoreE [] n u now = 0) : spMoreE [(n, u)] n u now = 7 := by
  rcases spMore_cases [] n u now with ⟨_, h1, h2, h3, h4, _⟩ | h1
  · unfold spMoreE
    rw [if_neg (by simp [h1, h2, h3]), if_neg (by omega), if_pos]
    simp [spDrop, h4]
  · exact absurd h h1
theorem kept_below {S : List Nat} {B : Nat} {a w w' : World} (h : Below B a w) (hk : Kept S w w') (hS : ∀ x, x ∈ S → B ≤ x) (hB : B ≤ w.heap.size) : Below B a w' := h.trans (hk.below hB hS)
end Go.Proofs.YtgmljcpeklpniaaDoor
