/- ticket: Made by contract. -/
import Derived.Test.YtgmljcpeklpniaaDoorTime
import Derived.Test.YtgmljcpeklpniaaDoorRingOf
import Derived.Deep.RegionHeld3
namespace Go.Proofs.YtgmljcpeklpniaaDoor
open Go.RowKit

set_option maxHeartbeats 1000000 in
theorem ticketMade {e k o n u : Int} (hk : 0 ≤ k ∧ k < 999983) (hn : 0 ≤ n ∧ n < 999983) (hu : 0 ≤ u ∧ u ≤ 100000) (w : World) :
    Calls Tryd.prog 43 #[.agg #[.int .i64 e, .int .i64 k, .int .i64 o], .int .i64 n, .int .i64 u] w fun r w' => r = .returned (.agg #[.int .i64 e, .int .i64 n, .int .i64 u, .int .i64 (tagOf k [2, n, u])]) ∧ Below w.heap.size w w' := by
  have O := hide (tagOf3 hk (show (0 : Int) ≤ 2 ∧ (2 : Int) < 999983 by omega) hn (show 0 ≤ u ∧ u < 999983 by omega))
  go_enter Tryd.func43, Tryd.ntmps43
  go_wp2_with fail
  go_region_held3 (fun w' => w'.cell? ⟨w.heap.size, 0, none⟩ = some (.int .i64 e) ∧ w'.cell? ⟨w.heap.size, 1, none⟩ = some (.int .i64 k)) (go_keep)
    (first | (go_at_call 37; refine (O.out _ _ ?_).mono ?_; (first | (with_reducible refine ObjAt.drew ?_; exact objNew (by simp)) | exact objNew (by simp)); rintro e1 w1 ⟨rfl, rfl⟩))
  all_goals go_wp2
  all_goals go_returns
  all_goals exact ⟨rfl, by go_grown⟩

/-- the fault of a ticket that is to be made -/
def tkmE (e k o n u : Int) : Int := if ringE e k o ≠ 0 then ringE e k o else if inB n && tmB u then 0 else 1
theorem tkmE_cases (e k o n u : Int) : (tkmE e k o n u = 0 ∧ ringE e k o = 0 ∧ inB n = true ∧ tmB u = true) ∨ tkmE e k o n u ≠ 0 := by
  unfold tkmE
  by_cases hr : ringE e k o = 0
  · rw [if_neg (by simp [hr])]
    cases h : inB n && tmB u
    · right; simp
    · left
      simp only [Bool.and_eq_true] at h
      exact ⟨rfl, hr, h.1, h.2⟩
  · rw [if_pos hr]; exact .inr hr
end Go.Proofs.YtgmljcpeklpniaaDoor
