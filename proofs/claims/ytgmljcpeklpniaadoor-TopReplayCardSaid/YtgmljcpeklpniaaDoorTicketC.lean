/- ticket: Check by contract. -/
import Derived.Test.YtgmljcpeklpniaaDoorTicketMd
namespace Go.Proofs.YtgmljcpeklpniaaDoor
open Go.RowKit

/-- right numbers? -/
def tickR (te tn tu tt : Int) : Bool := epB te && inB tn && tmB tu && inB tt
theorem tickR_ok {te tn tu tt : Int} (h : tickR te tn tu tt = true) : (0 ≤ te ∧ te ≤ 100) ∧ (0 ≤ tn ∧ tn < 999983) ∧ (0 ≤ tu ∧ tu ≤ 100000) ∧ (0 ≤ tt ∧ tt < 999983) := by
  simp only [tickR, Bool.and_eq_true] at h
  exact ⟨epB_true.1 h.1.1.1, inB_true.1 h.1.1.2, tmB_true.1 h.1.2, inB_true.1 h.2⟩
/-- the fault of a ticket at a time -/
def tickE (e k o te tn tu tt now : Int) : Int :=
  if ringE e k o ≠ 0 then ringE e k o else if (tmB now && tickR te tn tu tt) = false then 1
  else if (ringOfN e k o te).2 ≠ 0 then (ringOfN e k o te).2
  else if tagOf (ringOfN e k o te).1 [2, tn, tu] ≠ tt then 8 else if tu < now then 9 else 0
theorem ringOfN_key {e k o te : Int} (hk : 0 ≤ k ∧ k < 999983) (ho : 0 ≤ o ∧ o < 999983) : 0 ≤ (ringOfN e k o te).1 ∧ (ringOfN e k o te).1 < 999983 := by
  unfold ringOfN; split
  · exact hk
  · split
    · exact ho
    · split <;> simp
end Go.Proofs.YtgmljcpeklpniaaDoor
