/- ring: Of by contract. -/
import Derived.Test.YtlnehoedflbifaaRing
namespace Go.Proofs.Ytlnehoedflbifaa
open Go.RowKit

/-- the key of an epoch; the fault -/
def ringOfN (e k o ep : Int) : Int × Int := if e - ep = 0 then (k, 0) else if e - ep = 1 then (o, 0) else if e < ep then (0, 5) else (0, 9)
theorem ringOf (e k o ep : Int) (w : World) (h0 : 0 ≤ e) (h1 : e ≤ 100) (h2 : 0 ≤ ep) (h3 : ep ≤ 100) :
    Calls Try.prog 44 #[.agg #[.int .i64 e, .int .i64 k, .int .i64 o], .int .i64 ep] w fun r w' => r = .returned (.tuple #[.int .i64 (ringOfN e k o ep).1, errV (ringOfN e k o ep).2]) ∧ Below w.heap.size w w' := by
  by_cases g0 : e - ep = 0
  · rw [show ringOfN e k o ep = (k, 0) by simp [ringOfN, g0]]
    have t : (e - ep == 0) = true := by simp [g0]
    clear g0
    go_enter Try.func44, Try.ntmps44
    go_wp2
    go_ret2
    exact ⟨rfl, by go_grown⟩
  · by_cases g1 : e - ep = 1
    · rw [show ringOfN e k o ep = (o, 0) by simp [ringOfN, g1]]
      have t0 : (e - ep == 0) = false := beq_eq_false_iff_ne.2 g0
      have t : (e - ep == 1) = true := by simp [g1]
      clear g0 g1
      go_enter Try.func44, Try.ntmps44
      go_wp2
      go_ret2
      exact ⟨rfl, by go_grown⟩
    · have t0 : (e - ep == 0) = false := beq_eq_false_iff_ne.2 g0
      have t1 : (e - ep == 1) = false := beq_eq_false_iff_ne.2 g1
      by_cases g2 : e < ep
      · rw [show ringOfN e k o ep = (0, 5) by simp [ringOfN, g0, g1, g2]]
        clear g0 g1
        go_enter Try.func44, Try.ntmps44
        go_wp2
        go_ret2
        exact ⟨rfl, by go_grown⟩
      · rw [show ringOfN e k o ep = (0, 9) by simp [ringOfN, g0, g1, g2]]
        clear g0 g1
        go_enter Try.func44, Try.ntmps44
        go_wp2
        go_ret2
        exact ⟨rfl, by go_grown⟩
theorem ringOf_eq {e k o ep v c : Int} (h : ringOfN e k o ep = (v, c)) (h0 : 0 ≤ e) (h1 : e ≤ 100) (h2 : 0 ≤ ep) (h3 : ep ≤ 100) (w : World) :
    Calls Try.prog 44 #[.agg #[.int .i64 e, .int .i64 k, .int .i64 o], .int .i64 ep] w fun r w' => r = .returned (.tuple #[.int .i64 v, errV c]) ∧ Below w.heap.size w w' := by
  have g := ringOf e k o ep w h0 h1 h2 h3
  rwa [h] at g
end Go.Proofs.Ytlnehoedflbifaa
