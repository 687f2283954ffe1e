/- foldref1: In, Tag, Tagged by contracts. foldref1: Has, Drop, Spend (of what was spent) by contracts. -/
import Derived.Test.YtgmljcpeklpniaaDoorTag
import Derived.Test.YtgmljcpeklpniaaDoorSpMore
import Derived.Test.YtgmljcpeklpniaaDoorTopReplayProofM23
namespace Go.Proofs.YtgmljcpeklpniaaDoor
open Go.RowKit

end Go.Proofs.YtgmljcpeklpniaaDoor

namespace Go.Proofs.YtgmljcpeklpniaaDoor
open Go.RowKit

theorem any_snocP (zs : List (Int × Int)) (k : Nat) (hk : k < zs.length) (p : Int × Int → Bool) : (zs.take (k + 1)).any p = ((zs.take k).any p || p (zs.getD k (0, 0))) := by
  rw [take_snocP zs k hk, List.any_append]; simp
theorem spDrop_snoc (zs : List (Int × Int)) (now : Int) (k : Nat) (hk : k < zs.length) : spDrop (zs.take (k + 1)) now = if (zs.getD k (0, 0)).2 < now then spDrop (zs.take k) now else spDrop (zs.take k) now ++ [zs.getD k (0, 0)] := by
  unfold spDrop
  rw [take_snocP zs k hk, List.filter_append]
  by_cases h : (zs.getD k (0, 0)).2 < now
  · rw [if_pos h, List.filter_cons_of_neg (by rw [decide_eq_true h]; decide), List.filter_nil, List.append_nil]
  · rw [if_neg h, List.filter_cons_of_pos (by rw [decide_eq_false h]; rfl), List.filter_nil]
end Go.Proofs.YtgmljcpeklpniaaDoor
