/- The walk of JudgeNone. -/
import Derived.Test.YthfnjgiaimhbiabJudgeOld
namespace Go.Proofs.Ythfnjgiaimhbiab
open Go.RowKit
set_option maxHeartbeats 1000000 in
theorem walkJudgeNone (w : World) (e k o : Int) (_w0 : (Lit.int .i64 e).wf = true) (_w1 : (Lit.int .i64 k).wf = true) (_w2 : (Lit.int .i64 o).wf = true) (now : Int) (_wn : (Lit.int .i64 now).wf = true) :
    Calls Try.prog 8 #[.agg #[.int .i64 e, .int .i64 k, .int .i64 o], .int .i64 now] w fun r w' => r = .returned (.bool true) ∧ Below w.heap.size w w' := by
  have hz : ∀ t, oldB e k o 0 0 0 0 t = false := fun t => by simp [oldB]
  by_cases hr : ringE e k o = 0
  · have A : Hid (∀ W, Calls Try.prog 23 #[.agg #[.int .i64 e, .int .i64 k, .int .i64 o], .agg #[.int .i64 0, .int .i64 0, .int .i64 0, .int .i64 0], .int .i64 (-1)] W fun r w' => r = .returned (.tuple #[.bool false, .iface 75 (.int .i64 1)]) ∧ Below W.heap.size W w') := judgeOld_eq (c := 1) (by unfold oldN; rw [if_neg (by simp [hr]), if_pos (by decide)])
    have C : Hid (∀ W, Calls Try.prog 24 #[.agg #[.int .i64 e, .int .i64 k, .int .i64 o]] W fun r w' => r = .returned .nilIface ∧ Below W.heap.size W w') := ringCheck_eq (c := 0) hr
    cases hn : tmB now
    · have B : Hid (∀ W, Calls Try.prog 23 #[.agg #[.int .i64 e, .int .i64 k, .int .i64 o], .agg #[.int .i64 0, .int .i64 0, .int .i64 0, .int .i64 0], .int .i64 now] W fun r w' => r = .returned (.tuple #[.bool false, .iface 75 (.int .i64 1)]) ∧ Below W.heap.size W w') := judgeOld_eq (c := 1) (by unfold oldN; rw [if_neg (by simp [hr]), if_pos hn])
      have hc := tmB_false.1 hn
      clear hr hn hz
      rcases hc with hc | hc
      all_goals
        go_enter Try.func8, Try.ntmps8
        go_wp2_with fail
        refine (A.out _).mono ?_
        rintro e w1 ⟨rfl, hb1⟩
        have hB1 : Below w.heap.size w w1 := by
          refine Below.trans ?_ (Below.mono hb1 ?_)
          · go_grown
          · first | omega | (simp; done) | (simp; omega)
        have hz1_0 : w.heap.size < w1.heap.size := by have := hb1.size; first | omega | (simp at this; omega)
        have hy1 : w.heap.size ≤ w1.heap.size := hB1.size
        obtain ⟨c1, d1⟩ := bcell hb1
        go_wp2_with fail
        refine (B.out _).mono ?_
        rintro e w2 ⟨rfl, hb2⟩
        have hB2 : Below w.heap.size w w2 := by
          refine Below.trans ?_ (Below.mono hb2 ?_)
          · go_grown
          · first | omega | (simp; done) | (simp; omega)
        have hz2_0 : w.heap.size < w2.heap.size := by have := hb2.size; first | omega | (simp at this; omega)
        have hy2 : w.heap.size ≤ w2.heap.size := hB2.size
        obtain ⟨c2, d2⟩ := bcell hb2
        go_wp2_with fail
        refine (C.out _).mono ?_
        rintro e w3 ⟨rfl, hb3⟩
        have hB3 : Below w.heap.size w w3 := by
          refine Below.trans ?_ (Below.mono hb3 ?_)
          · go_grown
          · first | omega | (simp; done) | (simp; omega)
        have hz3_0 : w.heap.size < w3.heap.size := by have := hb3.size; first | omega | (simp at this; omega)
        have hy3 : w.heap.size ≤ w3.heap.size := hB3.size
        obtain ⟨c3, d3⟩ := bcell hb3
        go_wp2
        go_ret
        first | exact ⟨rfl, by go_grown⟩ | exact ⟨retB (a := decide (now < 0) || decide (100000 < now)) (by simp; omega), by go_grown⟩
    · have B : Hid (∀ W, Calls Try.prog 23 #[.agg #[.int .i64 e, .int .i64 k, .int .i64 o], .agg #[.int .i64 0, .int .i64 0, .int .i64 0, .int .i64 0], .int .i64 now] W fun r w' => r = .returned (.tuple #[.bool false, .nilIface]) ∧ Below W.heap.size W w') := judgeOld_eq (c := 0) (by unfold oldN; rw [if_neg (by simp [hr]), if_neg (by simp [hn]), hz])
      clear hr hn hz C
      go_enter Try.func8, Try.ntmps8
      go_wp2_with fail
      refine (A.out _).mono ?_
      rintro e w1 ⟨rfl, hb1⟩
      have hB1 : Below w.heap.size w w1 := by
        refine Below.trans ?_ (Below.mono hb1 ?_)
        · go_grown
        · first | omega | (simp; done) | (simp; omega)
      have hz1_0 : w.heap.size < w1.heap.size := by have := hb1.size; first | omega | (simp at this; omega)
      have hy1 : w.heap.size ≤ w1.heap.size := hB1.size
      obtain ⟨c1, d1⟩ := bcell hb1
      go_wp2_with fail
      refine (B.out _).mono ?_
      rintro e w2 ⟨rfl, hb2⟩
      have hB2 : Below w.heap.size w w2 := by
        refine Below.trans ?_ (Below.mono hb2 ?_)
        · go_grown
        · first | omega | (simp; done) | (simp; omega)
      have hz2_0 : w.heap.size < w2.heap.size := by have := hb2.size; first | omega | (simp at this; omega)
      have hy2 : w.heap.size ≤ w2.heap.size := hB2.size
      obtain ⟨c2, d2⟩ := bcell hb2
      go_wp2
      go_ret
      exact ⟨rfl, by go_grown⟩
  · obtain ⟨c, hc⟩ : ∃ c, ringE e k o = c := ⟨_, rfl⟩
    have A := hide (judgeOld_eq (e := e) (k := k) (o := o) (te := 0) (tn := 0) (tu := 0) (tt := 0) (now := -1) (v := false) (c := c) (by unfold oldN; rw [if_pos hr, hc]))
    have B := hide (judgeOld_eq (e := e) (k := k) (o := o) (te := 0) (tn := 0) (tu := 0) (tt := 0) (now := now) (v := false) (c := c) (by unfold oldN; rw [if_pos hr, hc]))
    have C := hide (fun W => ringCheck_eq hc W)
    rw [hc] at hr
    have t1 : (c != 0) = true := bne_iff_ne.2 hr
    have t2 : (c == 0) = false := beq_eq_false_iff_ne.2 hr
    clear hc hr hz
    go_enter Try.func8, Try.ntmps8
    go_wp2_with fail
    refine (A.out _).mono ?_
    rintro e w1 ⟨rfl, hb1⟩
    have hB1 : Below w.heap.size w w1 := by
      refine Below.trans ?_ (Below.mono hb1 ?_)
      · go_grown
      · first | omega | (simp; done) | (simp; omega)
    have hz1_0 : w.heap.size < w1.heap.size := by have := hb1.size; first | omega | (simp at this; omega)
    have hy1 : w.heap.size ≤ w1.heap.size := hB1.size
    obtain ⟨c1, d1⟩ := bcell hb1
    go_wp2_with fail
    refine (B.out _).mono ?_
    rintro e w2 ⟨rfl, hb2⟩
    have hB2 : Below w.heap.size w w2 := by
      refine Below.trans ?_ (Below.mono hb2 ?_)
      · go_grown
      · first | omega | (simp; done) | (simp; omega)
    have hz2_0 : w.heap.size < w2.heap.size := by have := hb2.size; first | omega | (simp at this; omega)
    have hy2 : w.heap.size ≤ w2.heap.size := hB2.size
    obtain ⟨c2, d2⟩ := bcell hb2
    go_wp2_with fail
    refine (C.out _).mono ?_
    rintro e w3 ⟨rfl, hb3⟩
    have hB3 : Below w.heap.size w w3 := by
      refine Below.trans ?_ (Below.mono hb3 ?_)
      · go_grown
      · first | omega | (simp; done) | (simp; omega)
    have hz3_0 : w.heap.size < w3.heap.size := by have := hb3.size; first | omega | (simp at this; omega)
    have hy3 : w.heap.size ≤ w3.heap.size := hB3.size
    obtain ⟨c3, d3⟩ := bcell hb3
    go_wp2
    go_ret
    exact ⟨rfl, by go_grown⟩
end Go.Proofs.Ythfnjgiaimhbiab
