/- The walk of ConnAll. -/
import Derived.Test.YthfnjgiaimhbiaaConn
namespace Go.Proofs.Ythfnjgiaimhbiaa
open Go.RowKit

theorem walkConnAll (w : World) (a0 a1 : Int) (_w0 : (Lit.int .i64 a0).wf = true) (_w1 : (Lit.int .i64 a1).wf = true) :
    Calls Try.prog 10 #[.agg #[.int .i64 a0, .int .i64 a1]] w fun e w' => e = .returned (.bool true) ∧ Below w.heap.size w w' := by
  cases hb : connB a0 a1
  · have C : Hid (∀ W, Calls Try.prog 27 #[.agg #[.int .i64 a0, .int .i64 a1]] W fun e w' => e = .returned (.tuple #[.int .i64 0, .iface 58 (.int .i64 1)]) ∧ Below W.heap.size W w') := hide (connNumber_eq (c := 1) (by simp [connNum, hb]))
    have hc : a0 < 0 ∨ (0 ≤ a0 ∧ 15 < a0) ∨ (0 ≤ a0 ∧ a0 ≤ 15 ∧ a1 < 0) ∨ (0 ≤ a0 ∧ a0 ≤ 15 ∧ 0 ≤ a1 ∧ 4095 < a1) := by
      simp only [connB, decide_eq_false_iff_not] at hb; omega
    clear hb
    rcases hc with h | ⟨h1, h2⟩ | ⟨h1, h2, h3⟩ | ⟨h1, h2, h3, h4⟩
    all_goals
      go_enter Try.func10, Try.ntmps10
      go_wp2_with fail
      refine (C.out _).mono ?_
      rintro e w1 ⟨rfl, hb1⟩
      obtain ⟨c1, c2⟩ := bcell hb1
      go_wp2
      go_ret
      exact ⟨rfl, ((Below.refl _ _).alloc (Nat.le_refl _) _).trans (hb1.mono (by simp))⟩
  · have hi := connN_in a0 a1 hb
    have hO := connOf_back a0 a1 hb
    obtain ⟨v, hv⟩ : ∃ v, v = connN a0 a1 := ⟨_, rfl⟩
    have C : Hid (∀ W, Calls Try.prog 27 #[.agg #[.int .i64 a0, .int .i64 a1]] W fun e w' => e = .returned (.tuple #[.int .i64 v, .nilIface]) ∧ Below W.heap.size W w') := hide (connNumber_eq (c := 0) (by simp [connNum, hb, hv]))
    rw [← hv] at hi hO
    simp only [connB, decide_eq_true_eq] at hb
    obtain ⟨h1, h2, h3, h4⟩ := hb
    have R16 : Hid (∀ W, Calls Try.prog 29 #[.int .i64 v, .int .i64 16] W fun e w' => e = .returned (.tuple #[.int .i64 a0, .nilIface]) ∧ Below W.heap.size W w') := hide (connRoute_eq (c := 0) (by unfold routeN; rw [if_pos (by omega), hO]; simp only; rw [show a0 % 16 = a0 by omega]))
    have R1 : Hid (∀ W, Calls Try.prog 29 #[.int .i64 v, .int .i64 1] W fun e w' => e = .returned (.tuple #[.int .i64 0, .nilIface]) ∧ Below W.heap.size W w') := hide (connRoute_eq (c := 0) (by unfold routeN; rw [if_pos (by omega), hO]; simp only; rw [show a0 % 1 = 0 by omega]))
    clear hO hv
    obtain ⟨hi1, hi2⟩ := hi
    go_enter Try.func10, Try.ntmps10
    go_wp2_with fail
    refine (C.out _).mono ?_
    rintro e w1 ⟨rfl, hb1⟩
    obtain ⟨c1, c2⟩ := bcell hb1
    go_wp2_with fail
    refine (R16.out _).mono ?_
    rintro e w2 ⟨rfl, hb2⟩
    have hz1 : w.heap.size < w1.heap.size := by have := hb1.size; simp at this; omega
    obtain ⟨c3, c4⟩ := bcell hb2
    go_wp2_with fail
    refine (R1.out _).mono ?_
    rintro e w3 ⟨rfl, hb3⟩
    have hz2 : w.heap.size < w2.heap.size := by have := hb2.size; omega
    obtain ⟨c5, c6⟩ := bcell hb3
    go_wp2
    go_ret
    exact ⟨rfl, ((((Below.refl _ _).alloc (Nat.le_refl _) _).trans (hb1.mono (by simp))).trans (hb2.mono (by omega))).trans (hb3.mono (by omega))⟩
end Go.Proofs.Ythfnjgiaimhbiaa
