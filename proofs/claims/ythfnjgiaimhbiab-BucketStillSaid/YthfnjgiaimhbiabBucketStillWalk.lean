/- The walk of BucketStill. -/
import Derived.Test.YthfnjgiaimhbiabBucketT
namespace Go.Proofs.Ythfnjgiaimhbiab
open Go.RowKit
set_option maxHeartbeats 1000000 in
theorem walkBucketStill (w : World) (s r h t : Int) (_w0 : (Lit.int .i64 s).wf = true) (_w1 : (Lit.int .i64 r).wf = true) (_w2 : (Lit.int .i64 h).wf = true) (_w3 : (Lit.int .i64 t).wf = true) :
    Calls Try.prog 5 #[.agg #[.int .i64 s, .int .i64 r, .int .i64 h, .int .i64 t]] w fun e w' => e = .returned (.bool true) ∧ Below w.heap.size w w' := by
  cases hb : buckB s r h t
  · have A : Hid (∀ W, Calls Try.prog 16 #[.agg #[.int .i64 s, .int .i64 r, .int .i64 h, .int .i64 t], .int .i64 t] W fun e w' => e = .returned (.tuple #[.agg #[.int .i64 0, .int .i64 0, .int .i64 0, .int .i64 0], .iface 75 (.int .i64 1)]) ∧ Below W.heap.size W w') := bucketAt_bad (c := 1) (by unfold buckAtE; rw [if_pos hb]) (by omega)
    have C := hide (fun W => bucketCheck_bad hb W)
    clear hb
    go_enter Try.func5, Try.ntmps5
    go_wp2_with fail
    refine (A.out _).mono ?_
    rintro e w1 ⟨rfl, hb1⟩
    have hB1 : Below w.heap.size w w1 := by
      refine Below.trans ?_ (Below.mono hb1 ?_)
      · go_grown
      · first | omega | (simp; done) | (simp; omega)
    have hz1_0 : w.heap.size < w1.heap.size := by have := hb1.size; first | omega | (simp at this; omega)
    have hy1 : w.heap.size ≤ w1.heap.size := hB1.size
    obtain ⟨c1, d1⟩ := bcell hb1
    go_wp2_with fail
    refine (C.out _).mono ?_
    rintro e w2 ⟨rfl, hb2⟩
    have hB2 : Below w.heap.size w w2 := by
      refine Below.trans ?_ (Below.mono hb2 ?_)
      · go_grown
      · first | omega | (simp; done) | (simp; omega)
    have hz2_0 : w.heap.size < w2.heap.size := by have := hb2.size; first | omega | (simp at this; omega)
    have hy2 : w.heap.size ≤ w2.heap.size := hB2.size
    obtain ⟨c2, d2⟩ := bcell hb2
    go_wp2
    go_ret
    exact ⟨rfl, by go_grown⟩
  · obtain ⟨⟨h1, h2, h3, h4, h5, h6⟩, h7, h8⟩ := buckB_ok hb
    have ht : tmB t = true := tmB_true.2 ⟨h7, h8⟩
    have e1 : buckH s r h t t = h := by unfold buckH; rw [Int.sub_self, Int.mul_zero]; omega
    have A : Hid (∀ W, Calls Try.prog 16 #[.agg #[.int .i64 s, .int .i64 r, .int .i64 h, .int .i64 t], .int .i64 t] W fun e w' => e = .returned (.tuple #[.agg #[.int .i64 s, .int .i64 r, .int .i64 h, .int .i64 t], .nilIface]) ∧ Below W.heap.size W w') := by
      intro W; have g := bucketAt_ok hb ht (Int.le_refl t) W; rw [show min s (h + r * (t - t)) = h from e1] at g; exact g
    have T : Hid (∀ W, Calls Try.prog 14 #[.agg #[.int .i64 s, .int .i64 r, .int .i64 h, .int .i64 t], .int .i64 t, .int .i64 h] W fun e w' => e = .returned (.tuple #[.agg #[.int .i64 s, .int .i64 r, .int .i64 0, .int .i64 t], .nilIface]) ∧ Below W.heap.size W w') := by
      intro W; have g := bucketTake_ok hb ht (Int.le_refl t) ⟨h5, by omega⟩ (by rw [e1]; exact Int.le_refl h) W; rw [e1, Int.sub_self] at g; exact g
    clear hb ht e1
    go_enter Try.func5, Try.ntmps5
    go_wp2_with fail
    refine (A.out _).mono ?_
    rintro e w1 ⟨rfl, hb1⟩
    have hB1 : Below w.heap.size w w1 := by
      refine Below.trans ?_ (Below.mono hb1 ?_)
      · go_grown
      · first | omega | (simp; done) | (simp; omega)
    have hz1_0 : w.heap.size < w1.heap.size := by have := hb1.size; first | omega | (simp at this; omega)
    have hy1 : w.heap.size ≤ w1.heap.size := hB1.size
    obtain ⟨c1, d1⟩ := bcell hb1
    go_wp2_with fail
    refine (T.out _).mono ?_
    rintro e w2 ⟨rfl, hb2⟩
    have hB2 : Below w.heap.size w w2 := by
      refine Below.trans ?_ (Below.mono hb2 ?_)
      · go_grown
      · first | omega | (simp; done) | (simp; omega)
    have hz2_0 : w.heap.size < w2.heap.size := by have := hb2.size; first | omega | (simp at this; omega)
    have hl2_w1 : w1.heap.size < w2.heap.size := by have := hb2.size; first | omega | (simp at this; omega)
    have hy2 : w.heap.size ≤ w2.heap.size := hB2.size
    obtain ⟨c2, d2⟩ := bcell hb2
    go_wp2
    go_ret
    exact ⟨rfl, by go_grown⟩
end Go.Proofs.Ythfnjgiaimhbiab
