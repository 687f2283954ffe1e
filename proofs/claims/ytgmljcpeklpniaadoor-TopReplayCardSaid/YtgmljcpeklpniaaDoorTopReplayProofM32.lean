/- foldref1: Spend (of what was spent) by contract. The walk of SpentTells. -/
import Derived.Test.YtgmljcpeklpniaaDoorTopReplayProofM30
import Derived.Test.YtgmljcpeklpniaaDoorTopReplayProofM29
import Derived.Test.YtgmljcpeklpniaaDoorRSpents
import Derived.Test.YtgmljcpeklpniaaDoorOpen
import Derived.Test.YtgmljcpeklpniaaDoorErr
namespace Go.Proofs.YtgmljcpeklpniaaDoor
open Go.RowKit

end Go.Proofs.YtgmljcpeklpniaaDoor

namespace Go.Proofs.YtgmljcpeklpniaaDoor
open Go.RowKit

theorem psl_row {w : World} {a : Option Addr} {len cap : Nat} {zs : List (Int × Int)} (hr : PairRow w a len zs) (hc : len ≤ cap) (hl : len ≤ 1000) : PSl w (.slice a len cap) zs := by
  obtain ⟨h1, _, _, h4⟩ := hr
  subst h1
  refine ⟨hl, ?_⟩
  rcases h4 with h | ⟨b, off, rfl, hlt, hcell⟩
  · exact .inl ⟨List.eq_nil_of_length_eq_zero h, a, cap, by rw [h]⟩
  · refine .inr ⟨b, off, cap, rfl, hc, hlt, fun j hj => ?_⟩
    have q0 := hcell j 0 hj (by decide)
    have q1 := hcell j 1 hj (by decide)
    exact ⟨by simpa using q0, by simpa using q1⟩
theorem spMore_out {zs : List (Int × Int)} {n u now : Int} (hn : inB n = false) : spMoreE zs n u now ≠ 0 := by
  intro h
  obtain ⟨_, h1, _⟩ := (spMore_cases zs n u now).resolve_right (fun hx => hx h)
  rw [hn] at h1; cases h1
theorem psl_0 (w : World) : PSl w (.slice none 0 0) [] := ⟨by simp, .inl ⟨rfl, none, 0, rfl⟩⟩
end Go.Proofs.YtgmljcpeklpniaaDoor
