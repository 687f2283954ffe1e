/- The walk of ResetWrong. -/
import Derived.Test.YthfnjgiaimhbiaaReset
namespace Go.Proofs.Ythfnjgiaimhbiaa
open Go.RowKit

set_option maxHeartbeats 4000000 in
theorem walkResetWrong (w : World) (x : Int) (_wx : (Lit.int .i64 x).wf = true) (a0 a1 : Int) (_w0 : (Lit.int .i64 a0).wf = true) (_w1 : (Lit.int .i64 a1).wf = true) (n : Int) (_wn : (Lit.int .i64 n).wf = true) :
    Calls Try.prog 14 #[.int .i64 x, .agg #[.int .i64 a0, .int .i64 a1], .int .i64 n] w fun e w' => e = .returned (.bool true) ∧ Below w.heap.size w w' := by
  rcases resetN_cases x a0 a1 with ⟨v, hv, -, -, -⟩ | ⟨hv, -⟩
  · have OA : Hid (∀ W, Calls Try.prog 34 #[.int .i64 x, .agg #[.int .i64 a0, .int .i64 a1]] W fun e w' => e = .returned (.tuple #[.int .i64 v, .nilIface]) ∧ Below W.heap.size W w') := hide (resetOf_eq (c := 0) hv)
    cases hn : inB n
    · have IA : Hid (∀ W, Calls Try.prog 35 #[.int .i64 x, .agg #[.int .i64 a0, .int .i64 a1], .int .i64 n] W fun e w' => e = .returned (.tuple #[.bool false, .iface 58 (.int .i64 1)]) ∧ Below W.heap.size W w') := hide (resetIs_eq (c := 1) (by unfold resetIsN; rw [if_neg (by simp [hn])]))
      have hc := inB_false.1 hn
      clear hv hn
      rcases hc with hc | hc
      all_goals
        go_enter Try.func14, Try.ntmps14
        go_wp2_with fail
        refine (OA.out _).mono ?_
        rintro e w1 ⟨rfl, hb1⟩
        have hB1 : Below w.heap.size w w1 := by
          refine Below.trans ?_ (Below.mono hb1 ?_)
          · go_grown
          · first | omega | (simp; done) | (simp; omega)
        have hz1_0 : w.heap.size < w1.heap.size := by have := hb1.size; first | omega | (simp at this; omega)
        have hy1 : w.heap.size ≤ w1.heap.size := hB1.size
        obtain ⟨c1, d1⟩ := bcell hb1
        go_wp2_with fail
        refine (IA.out _).mono ?_
        rintro e w2 ⟨rfl, hb2⟩
        have hB2 : Below w.heap.size w w2 := by
          refine Below.trans ?_ (Below.mono hb2 ?_)
          · go_grown
          · first | omega | (simp; done) | (simp; omega)
        have hz2_0 : w.heap.size < w2.heap.size := by have := hb2.size; first | omega | (simp at this; omega)
        have hy2 : w.heap.size ≤ w2.heap.size := hB2.size
        obtain ⟨c2, d2⟩ := bcell hb2
        go_wp2
        go_ret
        exact ⟨rfl, by go_grown⟩
    · have IA : Hid (∀ W, Calls Try.prog 35 #[.int .i64 x, .agg #[.int .i64 a0, .int .i64 a1], .int .i64 n] W fun e w' => e = .returned (.tuple #[.bool (v == n), .nilIface]) ∧ Below W.heap.size W w') := hide (resetIs_eq (c := 0) (by unfold resetIsN; rw [hv, if_pos ⟨rfl, hn⟩]))
      obtain ⟨h0, h1⟩ := inB_true.1 hn
      clear hv hn
      by_cases hne : n = v
      · subst hne
        rw [show (n == n) = true by simp] at IA
        go_enter Try.func14, Try.ntmps14
        go_wp2_with fail
        refine (OA.out _).mono ?_
        rintro e w1 ⟨rfl, hb1⟩
        have hB1 : Below w.heap.size w w1 := by
          refine Below.trans ?_ (Below.mono hb1 ?_)
          · go_grown
          · first | omega | (simp; done) | (simp; omega)
        have hz1_0 : w.heap.size < w1.heap.size := by have := hb1.size; first | omega | (simp at this; omega)
        have hy1 : w.heap.size ≤ w1.heap.size := hB1.size
        obtain ⟨c1, d1⟩ := bcell hb1
        go_wp2_with fail
        refine (IA.out _).mono ?_
        rintro e w2 ⟨rfl, hb2⟩
        have hB2 : Below w.heap.size w w2 := by
          refine Below.trans ?_ (Below.mono hb2 ?_)
          · go_grown
          · first | omega | (simp; done) | (simp; omega)
        have hz2_0 : w.heap.size < w2.heap.size := by have := hb2.size; first | omega | (simp at this; omega)
        have hy2 : w.heap.size ≤ w2.heap.size := hB2.size
        obtain ⟨c2, d2⟩ := bcell hb2
        go_wp2
        go_ret
        exact ⟨rfl, by go_grown⟩
      · have t1 : (n == v) = false := beq_eq_false_iff_ne.2 hne
        have t2 : (v == n) = false := beq_eq_false_iff_ne.2 (fun h => hne h.symm)
        rw [t2] at IA
        clear hne t2
        go_enter Try.func14, Try.ntmps14
        go_wp2_with fail
        refine (OA.out _).mono ?_
        rintro e w1 ⟨rfl, hb1⟩
        have hB1 : Below w.heap.size w w1 := by
          refine Below.trans ?_ (Below.mono hb1 ?_)
          · go_grown
          · first | omega | (simp; done) | (simp; omega)
        have hz1_0 : w.heap.size < w1.heap.size := by have := hb1.size; first | omega | (simp at this; omega)
        have hy1 : w.heap.size ≤ w1.heap.size := hB1.size
        obtain ⟨c1, d1⟩ := bcell hb1
        go_wp2_with fail
        refine (IA.out _).mono ?_
        rintro e w2 ⟨rfl, hb2⟩
        have hB2 : Below w.heap.size w w2 := by
          refine Below.trans ?_ (Below.mono hb2 ?_)
          · go_grown
          · first | omega | (simp; done) | (simp; omega)
        have hz2_0 : w.heap.size < w2.heap.size := by have := hb2.size; first | omega | (simp at this; omega)
        have hy2 : w.heap.size ≤ w2.heap.size := hB2.size
        obtain ⟨c2, d2⟩ := bcell hb2
        go_wp2
        go_ret
        exact ⟨rfl, by go_grown⟩
  · have OA : Hid (∀ W, Calls Try.prog 34 #[.int .i64 x, .agg #[.int .i64 a0, .int .i64 a1]] W fun e w' => e = .returned (.tuple #[.int .i64 0, .iface 58 (.int .i64 1)]) ∧ Below W.heap.size W w') := hide (resetOf_eq (c := 1) hv)
    have IA : Hid (∀ W, Calls Try.prog 35 #[.int .i64 x, .agg #[.int .i64 a0, .int .i64 a1], .int .i64 n] W fun e w' => e = .returned (.tuple #[.bool false, .iface 58 (.int .i64 1)]) ∧ Below W.heap.size W w') := hide (resetIs_eq (c := 1) (by unfold resetIsN; rw [if_neg (by simp [hv])]))
    clear hv
    go_enter Try.func14, Try.ntmps14
    go_wp2_with fail
    refine (OA.out _).mono ?_
    rintro e w1 ⟨rfl, hb1⟩
    have hB1 : Below w.heap.size w w1 := by
      refine Below.trans ?_ (Below.mono hb1 ?_)
      · go_grown
      · first | omega | (simp; done) | (simp; omega)
    have hz1_0 : w.heap.size < w1.heap.size := by have := hb1.size; first | omega | (simp at this; omega)
    have hy1 : w.heap.size ≤ w1.heap.size := hB1.size
    obtain ⟨c1, d1⟩ := bcell hb1
    go_wp2_with fail
    refine (IA.out _).mono ?_
    rintro e w2 ⟨rfl, hb2⟩
    have hB2 : Below w.heap.size w w2 := by
      refine Below.trans ?_ (Below.mono hb2 ?_)
      · go_grown
      · first | omega | (simp; done) | (simp; omega)
    have hz2_0 : w.heap.size < w2.heap.size := by have := hb2.size; first | omega | (simp at this; omega)
    have hy2 : w.heap.size ≤ w2.heap.size := hB2.size
    obtain ⟨c2, d2⟩ := bcell hb2
    go_wp2
    go_ret
    exact ⟨rfl, by go_grown⟩
end Go.Proofs.Ythfnjgiaimhbiaa
