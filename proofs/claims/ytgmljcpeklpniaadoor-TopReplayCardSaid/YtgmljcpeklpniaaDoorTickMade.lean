/- A ticket that was made is right up to its time. -/
import Derived.Test.YtgmljcpeklpniaaDoorTicketC
namespace Go.Proofs.YtgmljcpeklpniaaDoor
open Go.RowKit

theorem tickE_made {e k o n u now : Int} (hr : ringE e k o = 0) (hn : inB n = true) (hu : tmB u = true) (h0 : 0 ≤ now) (h1 : now ≤ 100000) :
    tickE e k o e n u (tagOf k [2, n, u]) now = if u < now then 9 else 0 := by
  obtain ⟨he, _, _, _⟩ := ringE_ok hr
  have hR : tickR e n u (tagOf k [2, n, u]) = true := by simp [tickR, epB_true.2 he, hn, hu, inB_true.2 (tagOf_in k [2, n, u])]
  have hO : ringOfN e k o e = (k, 0) := by simp [ringOfN]
  unfold tickE
  rw [if_neg (by simp [hr]), if_neg (by simp [hR, tmB_true.2 ⟨h0, h1⟩]), hO]
  simp

end Go.Proofs.YtgmljcpeklpniaaDoor
