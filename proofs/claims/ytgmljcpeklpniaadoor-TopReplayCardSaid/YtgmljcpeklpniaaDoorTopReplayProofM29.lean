/- spent: Spend by contract. spent: Has, Drop, and all of it at what is wrong, by contracts. -/
import Derived.Test.YtgmljcpeklpniaaDoorSpCheck
import Derived.Test.YtgmljcpeklpniaaDoorVault
namespace Go.Proofs.YtgmljcpeklpniaaDoor
open Go.RowKit

theorem ownsRow_le' {w : World} {base base' size n : Nat} {e : TypeId} {v : Value} {xs : List Value} (h : w.ownsRow base e size v n xs) (hb : base' ≤ base) : w.ownsRow base' e size v n xs := by
  refine ⟨h.1, ?_⟩
  rcases h.2 with h2 | ⟨g, cap, cur, h1, h2, h3⟩
  · exact .inl h2
  · exact .inr ⟨g, cap, cur, h1, Nat.le_trans hb h2, h3⟩
end Go.Proofs.YtgmljcpeklpniaaDoor

namespace Go.Proofs.YtgmljcpeklpniaaDoor
open Go.RowKit

/-- Check tells the fault c of v, now and later. -/
def SpBad (v : Value) (c : Int) (w : World) : Prop := ∀ W, Below w.heap.size w W → Calls Tryd.prog 25 #[v] W fun e w' => e = .returned (errV c) ∧ Below W.heap.size W w'
theorem SpBad.below {v : Value} {c : Int} {w w1 : World} (h : SpBad v c w) (hb : Below w.heap.size w w1) : SpBad v c w1 := fun W hW => h W (hb.trans (hW.mono hb.size))
theorem spBad_psl {v : Value} {c : Int} {w : World} {zs : List (Int × Int)} (hv : PSl w v zs) (hc : spE zs = c) : SpBad v c w := fun W hW => spCheck hc v W (hv.below hW)
theorem spBad_long {a : Option Addr} {n c : Nat} (w : World) (h : 16 < n) (hm : n ≤ maxLen) : SpBad (.slice a n c) 4 w := by
  intro W _
  unfold maxLen at hm
  go_enter Tryd.func25, Tryd.ntmps25
  go_wp2
  go_ret
  exact ⟨rfl, Below.refl _ _⟩
theorem spCheck0 {zs : List (Int × Int)} (h : spE zs = 0) (v : Value) (w : World) (hv : PSl w v zs) : Calls Tryd.prog 25 #[v] w fun e w' => e = .returned .nilIface ∧ Below w.heap.size w w' := spCheck (c := 0) h v w hv
end Go.Proofs.YtgmljcpeklpniaaDoor
