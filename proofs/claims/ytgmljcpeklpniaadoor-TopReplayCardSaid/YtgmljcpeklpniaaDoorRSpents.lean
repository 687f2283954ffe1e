/- foldref1: Spents; foldsame: Spent; spent: Has, Drop by contracts. -/
import Derived.Test.YtgmljcpeklpniaaDoorTopReplayProofM30
import Derived.Test.YtgmljcpeklpniaaDoorTopReplayProofM29
import Derived.BigQuiet
namespace Go.Proofs.YtgmljcpeklpniaaDoor
open Go.RowKit

theorem psl_some {w : World} {v : Value} {zs : List (Int × Int)} (h : PSl w v zs) (hn : zs ≠ []) : ∃ b off c, v = .slice (some ⟨b, off, none⟩) zs.length c ∧ zs.length ≤ c ∧ b < w.heap.size ∧ PC w b off zs := by
  rcases h.2 with ⟨h0, _⟩ | h1
  · exact absurd h0 hn
  · exact h1
theorem psl_nil {w : World} {v : Value} (h : PSl w v []) : ∃ a c, v = .slice a 0 c := by
  rcases h.2 with ⟨_, a, c, rfl⟩ | ⟨b, off, c, rfl, _⟩
  · exact ⟨a, c, rfl⟩
  · exact ⟨_, c, rfl⟩
theorem any_takeP {zs : List (Int × Int)} {k m : Nat} {n : Int} (hk : k ≤ zs.length) (hm : m < k) (h : ((zs.getD m (0, 0)).1 == n) = true) : (zs.take k).any (fun z => z.1 == n) = true := by
  rw [List.any_eq_true]
  refine ⟨zs.getD m (0, 0), ?_, h⟩
  rw [List.mem_iff_getElem]
  exact ⟨m, by rw [List.length_take]; omega, by rw [List.getElem_take]; simp [List.getD, List.getElem?_eq_getElem (show m < zs.length by omega)]⟩
theorem any_takeP_no {zs : List (Int × Int)} {k : Nat} {n : Int} (hk : k ≤ zs.length) (h : ∀ j, j < k → ((zs.getD j (0, 0)).1 == n) = false) : (zs.take k).any (fun z => z.1 == n) = false := by
  rw [List.any_eq_false]
  intro x hx hp
  obtain ⟨j, hj, rfl⟩ := List.mem_iff_getElem.1 hx
  have hj' : j < k := by rw [List.length_take] at hj; omega
  have := h j hj'
  rw [List.getElem_take] at hp
  simp only [List.getD, List.getElem?_eq_getElem (show j < zs.length by omega), Option.getD_some] at this
  rw [this] at hp
  exact absurd hp (by decide)
theorem lt_succP {p : Nat → Prop} {m : Nat} (h : ∀ j, j < m → p j) (hm : p m) : ∀ j, j < m + 1 → p j := by
  intro j hj
  rcases Nat.lt_or_ge j m with h1 | h1
  · exact h j h1
  · obtain rfl : j = m := by omega
    exact hm
end Go.Proofs.YtgmljcpeklpniaaDoor
