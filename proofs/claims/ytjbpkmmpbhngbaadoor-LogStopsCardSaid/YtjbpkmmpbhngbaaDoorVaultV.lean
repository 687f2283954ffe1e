/- vault, its two rows written out: by contracts that tell that a new row is new. -/
import Derived.Test.YtjbpkmmpbhngbaaDoorVault
namespace Go.Proofs.YtjbpkmmpbhngbaaDoor
open Go.RowKit

/-- the row of v is none, or is new -/
def vNew (w w' : World) (v : Value) : Prop := v.ownBlock = none ∨ ∃ g, v.ownBlock = some g ∧ w.heap.size ≤ g ∧ g < w'.heap.size
theorem own_vnew {w : World} {base size n : Nat} {e : TypeId} {v : Value} {xs : List Value} {W : World} (h : w.ownsRow base e size v n xs) (hb : W.heap.size ≤ base) (i : Nat) (u : Value) (b : Nat) : vNew W (w.setCell ⟨b, i, none⟩ u) v := by
  rcases h.2 with ⟨rfl, _⟩ | ⟨g, cap, cur, rfl, h3, h4, _⟩
  · exact .inl rfl
  · exact .inr ⟨g, rfl, Nat.le_trans hb h3, by simpa using lt_of_block h4⟩
theorem psl_lt {w : World} {v : Value} {zs : List (Int × Int)} (h : PSl w v zs) (hz : zs ≠ []) : ∀ g, v.ownBlock = some g → g < w.heap.size := by
  rcases h.2 with ⟨h0, _⟩ | ⟨b, off, c, rfl, _, hb, _⟩
  · exact absurd h0 hz
  · intro g hg
    simp [Value.ownBlock] at hg
    omega
end Go.Proofs.YtjbpkmmpbhngbaaDoor
