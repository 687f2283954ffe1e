/- The walk of ResetOwn. -/
import Derived.Test.YthfnjgiaimhbiaaReset
namespace Go.Proofs.Ythfnjgiaimhbiaa
open Go.RowKit

set_option maxHeartbeats 4000000 in
theorem walkResetOwn (w : World) (x : Int) (_wx : (Lit.int .i64 x).wf = true) (a0 a1 : Int) (_w0 : (Lit.int .i64 a0).wf = true) (_w1 : (Lit.int .i64 a1).wf = true) (b0 b1 : Int) (_v0 : (Lit.int .i64 b0).wf = true) (_v1 : (Lit.int .i64 b1).wf = true) :
    Calls Try.prog 13 #[.int .i64 x, .agg #[.int .i64 a0, .int .i64 a1], .agg #[.int .i64 b0, .int .i64 b1]] w fun e w' => e = .returned (.bool true) ∧ Below w.heap.size w w' := by
  obtain ⟨one, hone, h1a, h1b⟩ : ∃ v, resetN 1 0 0 = (v, 0) ∧ 0 ≤ v ∧ v ≤ 999982 := by
    refine ⟨_, rfl, ?_, ?_⟩
    · exact (tagOf_in _ _).1
    · have := (tagOf_in 1 [3, connN 0 0]).2; exact Int.lt_add_one_iff.1 this
  have ONE : Hid (∀ W, Calls Try.prog 34 #[.int .i64 1, .agg #[.int .i64 0, .int .i64 0]] W fun e w' => e = .returned (.tuple #[.int .i64 one, .nilIface]) ∧ Below W.heap.size W w') := hide (resetOf_eq (c := 0) hone)
  clear hone
  rcases resetN_cases x a0 a1 with ⟨v, hv, hx, hc, hve⟩ | ⟨hv, -⟩
  · have OA : Hid (∀ W, Calls Try.prog 34 #[.int .i64 x, .agg #[.int .i64 a0, .int .i64 a1]] W fun e w' => e = .returned (.tuple #[.int .i64 v, .nilIface]) ∧ Below W.heap.size W w') := hide (resetOf_eq (c := 0) hv)
    have IA : Hid (∀ W, Calls Try.prog 35 #[.int .i64 x, .agg #[.int .i64 a0, .int .i64 a1], .int .i64 v] W fun e w' => e = .returned (.tuple #[.bool true, .nilIface]) ∧ Below W.heap.size W w') := hide (resetIs_eq (c := 0) (by unfold resetIsN; rw [hv]; have := tagOf_in x [3, connN a0 a1]; rw [if_pos ⟨rfl, inB_true.2 (by rw [hve]; exact this)⟩]; simp))
    rcases resetN_cases x b0 b1 with ⟨u, hu, -, hd, hue⟩ | ⟨hu, -⟩
    · have OB : Hid (∀ W, Calls Try.prog 34 #[.int .i64 x, .agg #[.int .i64 b0, .int .i64 b1]] W fun e w' => e = .returned (.tuple #[.int .i64 u, .nilIface]) ∧ Below W.heap.size W w') := hide (resetOf_eq (c := 0) hu)
      by_cases same : a0 = b0 ∧ a1 = b1
      · obtain ⟨rfl, rfl⟩ := same
        obtain rfl : u = v := by rw [hue, hve]
        clear hv hx hc hve hu hd hue
        go_enter Try.func13, Try.ntmps13
        go_wp2_with fail
        refine (OA.out _).mono ?_
        rintro e w1 ⟨rfl, hb1⟩
        have hB1 : Below w.heap.size w w1 := by
          refine Below.trans ?_ (Below.mono hb1 ?_)
          · go_grown
          · first | omega | (simp; done) | (simp; omega)
        have hz1_0 : w.heap.size < w1.heap.size := by have := hb1.size; first | omega | (simp at this; omega)
        have hz1_1 : w.heap.size + 1 < w1.heap.size := by have := hb1.size; first | omega | (simp at this; omega)
        have hy1 : w.heap.size ≤ w1.heap.size := hB1.size
        obtain ⟨c1, d1⟩ := bcell hb1
        go_wp2_with fail
        refine (ONE.out _).mono ?_
        rintro e w2 ⟨rfl, hb2⟩
        have hB2 : Below w.heap.size w w2 := by
          refine Below.trans ?_ (Below.mono hb2 ?_)
          · go_grown
          · first | omega | (simp; done) | (simp; omega)
        have hz2_0 : w.heap.size < w2.heap.size := by have := hb2.size; first | omega | (simp at this; omega)
        have hz2_1 : w.heap.size + 1 < w2.heap.size := by have := hb2.size; first | omega | (simp at this; omega)
        have hy2 : w.heap.size ≤ w2.heap.size := hB2.size
        obtain ⟨c2, d2⟩ := bcell hb2
        go_wp2_with fail
        refine (IA.out _).mono ?_
        rintro e w3 ⟨rfl, hb3⟩
        have hB3 : Below w.heap.size w w3 := by
          refine Below.trans ?_ (Below.mono hb3 ?_)
          · go_grown
          · first | omega | (simp; done) | (simp; omega)
        have hz3_0 : w.heap.size < w3.heap.size := by have := hb3.size; first | omega | (simp at this; omega)
        have hz3_1 : w.heap.size + 1 < w3.heap.size := by have := hb3.size; first | omega | (simp at this; omega)
        have hy3 : w.heap.size ≤ w3.heap.size := hB3.size
        obtain ⟨c3, d3⟩ := bcell hb3
        go_wp2_with fail
        refine (OA.out _).mono ?_
        rintro e w4 ⟨rfl, hb4⟩
        have hB4 : Below w.heap.size w w4 := by
          refine Below.trans ?_ (Below.mono hb4 ?_)
          · go_grown
          · first | omega | (simp; done) | (simp; omega)
        have hz4_0 : w.heap.size < w4.heap.size := by have := hb4.size; first | omega | (simp at this; omega)
        have hz4_1 : w.heap.size + 1 < w4.heap.size := by have := hb4.size; first | omega | (simp at this; omega)
        have hy4 : w.heap.size ≤ w4.heap.size := hB4.size
        obtain ⟨c4, d4⟩ := bcell hb4
        go_wp2
        go_ret
        exact ⟨rfl, by go_grown⟩
      · have hne : ¬ v = u := by
          intro h
          rw [hve, hue] at h
          have h2 := tagOf_set x [3, connN a0 a1] 1 (connN b0 b1) (by simp) (inB_true.1 hx) (by have := connN_in a0 a1 hc; simp; omega) (by have := connN_in b0 b1 hd; omega)
          have h3 := h2.1 h
          exact same (connN_inj hc hd h3.symm)
        have t1 : (v == u) = false := beq_eq_false_iff_ne.2 hne
        clear hv hx hc hve hu hd hue hne
        by_cases hs : a0 = b0
        · have t3 : (a1 == b1) = false := beq_eq_false_iff_ne.2 (fun h => same ⟨hs, h⟩)
          obtain rfl := hs
          clear same
          go_enter Try.func13, Try.ntmps13
          go_wp2_with fail
          refine (OA.out _).mono ?_
          rintro e w1 ⟨rfl, hb1⟩
          have hB1 : Below w.heap.size w w1 := by
            refine Below.trans ?_ (Below.mono hb1 ?_)
            · go_grown
            · first | omega | (simp; done) | (simp; omega)
          have hz1_0 : w.heap.size < w1.heap.size := by have := hb1.size; first | omega | (simp at this; omega)
          have hz1_1 : w.heap.size + 1 < w1.heap.size := by have := hb1.size; first | omega | (simp at this; omega)
          have hy1 : w.heap.size ≤ w1.heap.size := hB1.size
          obtain ⟨c1, d1⟩ := bcell hb1
          go_wp2_with fail
          refine (ONE.out _).mono ?_
          rintro e w2 ⟨rfl, hb2⟩
          have hB2 : Below w.heap.size w w2 := by
            refine Below.trans ?_ (Below.mono hb2 ?_)
            · go_grown
            · first | omega | (simp; done) | (simp; omega)
          have hz2_0 : w.heap.size < w2.heap.size := by have := hb2.size; first | omega | (simp at this; omega)
          have hz2_1 : w.heap.size + 1 < w2.heap.size := by have := hb2.size; first | omega | (simp at this; omega)
          have hy2 : w.heap.size ≤ w2.heap.size := hB2.size
          obtain ⟨c2, d2⟩ := bcell hb2
          go_wp2_with fail
          refine (IA.out _).mono ?_
          rintro e w3 ⟨rfl, hb3⟩
          have hB3 : Below w.heap.size w w3 := by
            refine Below.trans ?_ (Below.mono hb3 ?_)
            · go_grown
            · first | omega | (simp; done) | (simp; omega)
          have hz3_0 : w.heap.size < w3.heap.size := by have := hb3.size; first | omega | (simp at this; omega)
          have hz3_1 : w.heap.size + 1 < w3.heap.size := by have := hb3.size; first | omega | (simp at this; omega)
          have hy3 : w.heap.size ≤ w3.heap.size := hB3.size
          obtain ⟨c3, d3⟩ := bcell hb3
          go_wp2_with fail
          refine (OB.out _).mono ?_
          rintro e w4 ⟨rfl, hb4⟩
          have hB4 : Below w.heap.size w w4 := by
            refine Below.trans ?_ (Below.mono hb4 ?_)
            · go_grown
            · first | omega | (simp; done) | (simp; omega)
          have hz4_0 : w.heap.size < w4.heap.size := by have := hb4.size; first | omega | (simp at this; omega)
          have hz4_1 : w.heap.size + 1 < w4.heap.size := by have := hb4.size; first | omega | (simp at this; omega)
          have hy4 : w.heap.size ≤ w4.heap.size := hB4.size
          obtain ⟨c4, d4⟩ := bcell hb4
          go_wp2
          go_ret
          exact ⟨rfl, by go_grown⟩
        · have t2 : (a0 == b0) = false := beq_eq_false_iff_ne.2 hs
          clear same
          go_enter Try.func13, Try.ntmps13
          go_wp2_with fail
          refine (OA.out _).mono ?_
          rintro e w1 ⟨rfl, hb1⟩
          have hB1 : Below w.heap.size w w1 := by
            refine Below.trans ?_ (Below.mono hb1 ?_)
            · go_grown
            · first | omega | (simp; done) | (simp; omega)
          have hz1_0 : w.heap.size < w1.heap.size := by have := hb1.size; first | omega | (simp at this; omega)
          have hz1_1 : w.heap.size + 1 < w1.heap.size := by have := hb1.size; first | omega | (simp at this; omega)
          have hy1 : w.heap.size ≤ w1.heap.size := hB1.size
          obtain ⟨c1, d1⟩ := bcell hb1
          go_wp2_with fail
          refine (ONE.out _).mono ?_
          rintro e w2 ⟨rfl, hb2⟩
          have hB2 : Below w.heap.size w w2 := by
            refine Below.trans ?_ (Below.mono hb2 ?_)
            · go_grown
            · first | omega | (simp; done) | (simp; omega)
          have hz2_0 : w.heap.size < w2.heap.size := by have := hb2.size; first | omega | (simp at this; omega)
          have hz2_1 : w.heap.size + 1 < w2.heap.size := by have := hb2.size; first | omega | (simp at this; omega)
          have hy2 : w.heap.size ≤ w2.heap.size := hB2.size
          obtain ⟨c2, d2⟩ := bcell hb2
          go_wp2_with fail
          refine (IA.out _).mono ?_
          rintro e w3 ⟨rfl, hb3⟩
          have hB3 : Below w.heap.size w w3 := by
            refine Below.trans ?_ (Below.mono hb3 ?_)
            · go_grown
            · first | omega | (simp; done) | (simp; omega)
          have hz3_0 : w.heap.size < w3.heap.size := by have := hb3.size; first | omega | (simp at this; omega)
          have hz3_1 : w.heap.size + 1 < w3.heap.size := by have := hb3.size; first | omega | (simp at this; omega)
          have hy3 : w.heap.size ≤ w3.heap.size := hB3.size
          obtain ⟨c3, d3⟩ := bcell hb3
          go_wp2_with fail
          refine (OB.out _).mono ?_
          rintro e w4 ⟨rfl, hb4⟩
          have hB4 : Below w.heap.size w w4 := by
            refine Below.trans ?_ (Below.mono hb4 ?_)
            · go_grown
            · first | omega | (simp; done) | (simp; omega)
          have hz4_0 : w.heap.size < w4.heap.size := by have := hb4.size; first | omega | (simp at this; omega)
          have hz4_1 : w.heap.size + 1 < w4.heap.size := by have := hb4.size; first | omega | (simp at this; omega)
          have hy4 : w.heap.size ≤ w4.heap.size := hB4.size
          obtain ⟨c4, d4⟩ := bcell hb4
          go_wp2
          go_ret
          exact ⟨rfl, by go_grown⟩
    · have OB : Hid (∀ W, Calls Try.prog 34 #[.int .i64 x, .agg #[.int .i64 b0, .int .i64 b1]] W fun e w' => e = .returned (.tuple #[.int .i64 0, .iface 58 (.int .i64 1)]) ∧ Below W.heap.size W w') := hide (resetOf_eq (c := 1) hu)
      clear hv hx hc hve hu
      go_enter Try.func13, Try.ntmps13
      go_wp2_with fail
      refine (OA.out _).mono ?_
      rintro e w1 ⟨rfl, hb1⟩
      have hB1 : Below w.heap.size w w1 := by
        refine Below.trans ?_ (Below.mono hb1 ?_)
        · go_grown
        · first | omega | (simp; done) | (simp; omega)
      have hz1_0 : w.heap.size < w1.heap.size := by have := hb1.size; first | omega | (simp at this; omega)
      have hz1_1 : w.heap.size + 1 < w1.heap.size := by have := hb1.size; first | omega | (simp at this; omega)
      have hy1 : w.heap.size ≤ w1.heap.size := hB1.size
      obtain ⟨c1, d1⟩ := bcell hb1
      go_wp2_with fail
      refine (ONE.out _).mono ?_
      rintro e w2 ⟨rfl, hb2⟩
      have hB2 : Below w.heap.size w w2 := by
        refine Below.trans ?_ (Below.mono hb2 ?_)
        · go_grown
        · first | omega | (simp; done) | (simp; omega)
      have hz2_0 : w.heap.size < w2.heap.size := by have := hb2.size; first | omega | (simp at this; omega)
      have hz2_1 : w.heap.size + 1 < w2.heap.size := by have := hb2.size; first | omega | (simp at this; omega)
      have hy2 : w.heap.size ≤ w2.heap.size := hB2.size
      obtain ⟨c2, d2⟩ := bcell hb2
      go_wp2_with fail
      refine (IA.out _).mono ?_
      rintro e w3 ⟨rfl, hb3⟩
      have hB3 : Below w.heap.size w w3 := by
        refine Below.trans ?_ (Below.mono hb3 ?_)
        · go_grown
        · first | omega | (simp; done) | (simp; omega)
      have hz3_0 : w.heap.size < w3.heap.size := by have := hb3.size; first | omega | (simp at this; omega)
      have hz3_1 : w.heap.size + 1 < w3.heap.size := by have := hb3.size; first | omega | (simp at this; omega)
      have hy3 : w.heap.size ≤ w3.heap.size := hB3.size
      obtain ⟨c3, d3⟩ := bcell hb3
      go_wp2_with fail
      refine (OB.out _).mono ?_
      rintro e w4 ⟨rfl, hb4⟩
      have hB4 : Below w.heap.size w w4 := by
        refine Below.trans ?_ (Below.mono hb4 ?_)
        · go_grown
        · first | omega | (simp; done) | (simp; omega)
      have hz4_0 : w.heap.size < w4.heap.size := by have := hb4.size; first | omega | (simp at this; omega)
      have hz4_1 : w.heap.size + 1 < w4.heap.size := by have := hb4.size; first | omega | (simp at this; omega)
      have hy4 : w.heap.size ≤ w4.heap.size := hB4.size
      obtain ⟨c4, d4⟩ := bcell hb4
      go_wp2
      go_ret
      exact ⟨rfl, by go_grown⟩
  · have OA : Hid (∀ W, Calls Try.prog 34 #[.int .i64 x, .agg #[.int .i64 a0, .int .i64 a1]] W fun e w' => e = .returned (.tuple #[.int .i64 0, .iface 58 (.int .i64 1)]) ∧ Below W.heap.size W w') := hide (resetOf_eq (c := 1) hv)
    clear hv
    go_enter Try.func13, Try.ntmps13
    go_wp2_with fail
    refine (OA.out _).mono ?_
    rintro e w1 ⟨rfl, hb1⟩
    have hB1 : Below w.heap.size w w1 := by
      refine Below.trans ?_ (Below.mono hb1 ?_)
      · go_grown
      · first | omega | (simp; done) | (simp; omega)
    have hz1_0 : w.heap.size < w1.heap.size := by have := hb1.size; first | omega | (simp at this; omega)
    have hz1_1 : w.heap.size + 1 < w1.heap.size := by have := hb1.size; first | omega | (simp at this; omega)
    have hy1 : w.heap.size ≤ w1.heap.size := hB1.size
    obtain ⟨c1, d1⟩ := bcell hb1
    go_wp2_with fail
    refine (ONE.out _).mono ?_
    rintro e w2 ⟨rfl, hb2⟩
    have hB2 : Below w.heap.size w w2 := by
      refine Below.trans ?_ (Below.mono hb2 ?_)
      · go_grown
      · first | omega | (simp; done) | (simp; omega)
    have hz2_0 : w.heap.size < w2.heap.size := by have := hb2.size; first | omega | (simp at this; omega)
    have hz2_1 : w.heap.size + 1 < w2.heap.size := by have := hb2.size; first | omega | (simp at this; omega)
    have hy2 : w.heap.size ≤ w2.heap.size := hB2.size
    obtain ⟨c2, d2⟩ := bcell hb2
    go_wp2
    go_ret
    exact ⟨rfl, by go_grown⟩
end Go.Proofs.Ythfnjgiaimhbiaa
