/- The walk of WindowTells. -/
import Derived.Test.YtelegodagepeeaaDoorRWinB
import Derived.Test.YtelegodagepeeaaDoorErr
import Derived.Test.YtelegodagepeeaaDoorObj4
namespace Go.Proofs.YtelegodagepeeaaDoor
open Go.RowKit

set_option maxHeartbeats 2000000 in
theorem walkWindowTells (w : World) (T B : Int) (_w1 : (Lit.int .i64 T).wf = true) (_w2 : (Lit.int .i64 B).wf = true) (n : Int) (_w3 : (Lit.int .i64 n).wf = true) (hE : ErrT w) :
    Calls Tryd.prog 3 #[.agg #[.int .i64 T, .int .i64 B], .int .i64 n] w fun e w' => e = .returned (.bool true) ∧ Below w.heap.size w w' := by
  clear _w1 _w2 _w3
  have NW := hide (fun W => windowNew W)
  obtain ⟨c, hc⟩ : ∃ c, winE T B = c := ⟨_, rfl⟩
  have RW := hide (fun W => rWindow hc W)
  have CK := hide (fun W => windowCheck hc W)
  by_cases h0 : c = 0
  · subst h0
    obtain ⟨b, rfl⟩ : ∃ b : Nat, B = b := ⟨B.toNat, by have := winE_ok hc; omega⟩
    obtain ⟨X, Y, c, hR, hT⟩ := winBoth (n := n) hc
    have RT := hide hR
    have TK := hide hT
    clear hc hR hT
    obtain ⟨B, hB⟩ : ∃ B : Int, B = (b : Int) := ⟨_, rfl⟩
    rw [← hB] at RW CK RT TK ⊢
    clear hB
    go_enter Tryd.func3, Tryd.ntmps3
    go_wp2_with fail
    refine (RW.out _).mono ?_
    rintro e w1 ⟨rfl, hb1⟩
    have hB1 : Below w.heap.size w w1 := by
      refine Below.trans ?_ (Below.mono hb1 ?_)
      · go_grown
      · first | omega | (simp; done) | (simp; omega)
    have o1_w : ObjAt w1 (w.heap.size) 23 [.int .i64 T, .int .i64 B] := ObjAt.below (objNew (by simp)) hb1
    have q1_w_0 := o1_w.cell (i := 0) rfl
    have q1_w_1 := o1_w.cell (i := 1) rfl
    have l1_w := o1_w.lt
    have H1_w := hide o1_w
    clear o1_w
    have hy1 : w.heap.size ≤ w1.heap.size := hB1.size
    clear hb1
    go_wp2_with fail
    refine (CK.out _).mono ?_
    rintro e w2 ⟨rfl, hb2⟩
    have hB2 : Below w.heap.size w w2 := by
      refine Below.trans ?_ (Below.mono hb2 ?_)
      · go_grown
      · first | omega | (simp; done) | (simp; omega)
    have o2_w : ObjAt w2 (w.heap.size) 23 [.int .i64 T, .int .i64 B] := ObjAt.below (H1_w.out) hb2
    clear q1_w_0 q1_w_1 H1_w
    have q2_w_0 := o2_w.cell (i := 0) rfl
    have q2_w_1 := o2_w.cell (i := 1) rfl
    have l2_w := o2_w.lt
    have H2_w := hide o2_w
    clear o2_w
    have hy2 : w.heap.size ≤ w2.heap.size := hB2.size
    clear hb2
    go_wp2_with fail
    refine (error_any 0 0 _ (hE.below (B := w.heap.size) (by go_grown) hE.pos)).mono ?_
    rintro e w3 ⟨rfl, hb3⟩
    have hB3 : Below w.heap.size w w3 := by
      refine Below.trans ?_ (Below.mono hb3 ?_)
      · go_grown
      · first | omega | (simp; done) | (simp; omega)
    have o3_w : ObjAt w3 (w.heap.size) 23 [.int .i64 T, .int .i64 B] := ObjAt.below (H2_w.out) hb3
    clear q2_w_0 q2_w_1 H2_w
    have q3_w_0 := o3_w.cell (i := 0) rfl
    have q3_w_1 := o3_w.cell (i := 1) rfl
    have l3_w := o3_w.lt
    have H3_w := hide o3_w
    clear o3_w
    have hy3 : w.heap.size ≤ w3.heap.size := hB3.size
    clear hb3
    go_wp2_with fail
    refine (RT.out _).mono ?_
    rintro e w4 ⟨rfl, hb4⟩
    have hB4 : Below w.heap.size w w4 := by
      refine Below.trans ?_ (Below.mono hb4 ?_)
      · go_grown
      · first | omega | (simp; done) | (simp; omega)
    have o4_w : ObjAt w4 (w.heap.size) 23 [.int .i64 T, .int .i64 B] := ObjAt.below (ObjAt.alloc (H3_w.out) _) hb4
    have o4_want : ObjAt w4 (w3.heap.size) 23 [.int .i64 0, .int .i64 0] := ObjAt.below (objNew (by simp)) hb4
    clear q3_w_0 q3_w_1 H3_w
    have q4_w_0 := o4_w.cell (i := 0) rfl
    have q4_w_1 := o4_w.cell (i := 1) rfl
    have l4_w := o4_w.lt
    have H4_w := hide o4_w
    clear o4_w
    have q4_want_0 := o4_want.cell (i := 0) rfl
    have f4_want_0 := o4_want.free 0
    have q4_want_1 := o4_want.cell (i := 1) rfl
    have f4_want_1 := o4_want.free 1
    have l4_want := o4_want.lt
    have H4_want := hide o4_want
    clear o4_want
    have hy4 : w.heap.size ≤ w4.heap.size := hB4.size
    clear hb4
    go_wp2_with fail
    refine (TK.out _).mono ?_
    rintro e w5 ⟨rfl, hb5⟩
    have hB5 : Below w.heap.size w w5 := by
      refine Below.trans ?_ (Below.mono hb5 ?_)
      · go_grown
      · first | omega | (simp; done) | (simp; omega)
    have o5_w : ObjAt w5 (w.heap.size) 23 [.int .i64 T, .int .i64 B] := ObjAt.below (ObjAt.other2 (H4_w.out) (by omega)) hb5
    have o5_want : ObjAt w5 (w3.heap.size) 23 [.int .i64 X, .int .i64 Y] := ObjAt.below (ObjAt.set2 (H4_want.out)) hb5
    clear q4_w_0 q4_w_1 H4_w q4_want_0 f4_want_0 q4_want_1 f4_want_1 H4_want
    have q5_w_0 := o5_w.cell (i := 0) rfl
    have q5_w_1 := o5_w.cell (i := 1) rfl
    have l5_w := o5_w.lt
    have H5_w := hide o5_w
    clear o5_w
    have q5_want_0 := o5_want.cell (i := 0) rfl
    have f5_want_0 := o5_want.free 0
    have q5_want_1 := o5_want.cell (i := 1) rfl
    have f5_want_1 := o5_want.free 1
    have l5_want := o5_want.lt
    have H5_want := hide o5_want
    clear o5_want
    have hy5 : w.heap.size ≤ w5.heap.size := hB5.size
    clear hb5
    go_wp2_with fail
    refine (error_any c c _ (hE.below (B := w.heap.size) (by go_grown) hE.pos)).mono ?_
    rintro e w6 ⟨rfl, hb6⟩
    have hB6 : Below w.heap.size w w6 := by
      refine Below.trans ?_ (Below.mono hb6 ?_)
      · go_grown
      · first | omega | (simp; done) | (simp; omega)
    have o6_w : ObjAt w6 (w.heap.size) 23 [.int .i64 T, .int .i64 B] := ObjAt.below (ObjAt.alloc (H5_w.out) _) hb6
    have o6_want : ObjAt w6 (w3.heap.size) 23 [.int .i64 X, .int .i64 Y] := ObjAt.below (ObjAt.alloc (H5_want.out) _) hb6
    have o6_x : ObjAt w6 (w5.heap.size) 23 [.int .i64 X, .int .i64 Y] := ObjAt.below (objNew (by simp)) hb6
    clear q5_w_0 q5_w_1 H5_w q5_want_0 f5_want_0 q5_want_1 f5_want_1 H5_want
    have q6_w_0 := o6_w.cell (i := 0) rfl
    have q6_w_1 := o6_w.cell (i := 1) rfl
    have l6_w := o6_w.lt
    have H6_w := hide o6_w
    clear o6_w
    have q6_want_0 := o6_want.cell (i := 0) rfl
    have f6_want_0 := o6_want.free 0
    have q6_want_1 := o6_want.cell (i := 1) rfl
    have f6_want_1 := o6_want.free 1
    have l6_want := o6_want.lt
    have H6_want := hide o6_want
    clear o6_want
    have q6_x_0 := o6_x.cell (i := 0) rfl
    have q6_x_1 := o6_x.cell (i := 1) rfl
    have l6_x := o6_x.lt
    have H6_x := hide o6_x
    clear o6_x
    have hy6 : w.heap.size ≤ w6.heap.size := hB6.size
    clear hb6
    go_wp2_with fail
    refine (NW.out _).mono ?_
    rintro e w7 ⟨rfl, hb7⟩
    have hB7 : Below w.heap.size w w7 := by
      refine Below.trans ?_ (Below.mono hb7 ?_)
      · go_grown
      · first | omega | (simp; done) | (simp; omega)
    have o7_w : ObjAt w7 (w.heap.size) 23 [.int .i64 T, .int .i64 B] := ObjAt.below (H6_w.out) hb7
    have o7_want : ObjAt w7 (w3.heap.size) 23 [.int .i64 X, .int .i64 Y] := ObjAt.below (H6_want.out) hb7
    have o7_x : ObjAt w7 (w5.heap.size) 23 [.int .i64 X, .int .i64 Y] := ObjAt.below (H6_x.out) hb7
    clear q6_w_0 q6_w_1 H6_w q6_want_0 f6_want_0 q6_want_1 f6_want_1 H6_want q6_x_0 q6_x_1 H6_x
    have q7_w_0 := o7_w.cell (i := 0) rfl
    have q7_w_1 := o7_w.cell (i := 1) rfl
    have l7_w := o7_w.lt
    have H7_w := hide o7_w
    clear o7_w
    have q7_want_0 := o7_want.cell (i := 0) rfl
    have f7_want_0 := o7_want.free 0
    have q7_want_1 := o7_want.cell (i := 1) rfl
    have f7_want_1 := o7_want.free 1
    have l7_want := o7_want.lt
    have H7_want := hide o7_want
    clear o7_want
    have q7_x_0 := o7_x.cell (i := 0) rfl
    have q7_x_1 := o7_x.cell (i := 1) rfl
    have l7_x := o7_x.lt
    have H7_x := hide o7_x
    clear o7_x
    have hy7 : w.heap.size ≤ w7.heap.size := hB7.size
    clear hb7
    go_wp2
    go_ret
    exact ⟨rfl, by go_grown⟩
  · have t1 : (c == 0) = false := beq_eq_false_iff_ne.2 h0
    have TK := hide (fun W => windowTake_bad (T := T) (B := B) (n := n) (c := c) (by unfold winTE; rw [if_pos (by rw [hc]; exact h0), hc]) h0 W)
    clear hc h0
    go_enter Tryd.func3, Tryd.ntmps3
    go_wp2_with fail
    refine (RW.out _).mono ?_
    rintro e w1 ⟨rfl, hb1⟩
    have hB1 : Below w.heap.size w w1 := by
      refine Below.trans ?_ (Below.mono hb1 ?_)
      · go_grown
      · first | omega | (simp; done) | (simp; omega)
    have o1_w : ObjAt w1 (w.heap.size) 23 [.int .i64 T, .int .i64 B] := ObjAt.below (objNew (by simp)) hb1
    have q1_w_0 := o1_w.cell (i := 0) rfl
    have q1_w_1 := o1_w.cell (i := 1) rfl
    have l1_w := o1_w.lt
    have H1_w := hide o1_w
    clear o1_w
    have hy1 : w.heap.size ≤ w1.heap.size := hB1.size
    clear hb1
    go_wp2_with fail
    refine (CK.out _).mono ?_
    rintro e w2 ⟨rfl, hb2⟩
    have hB2 : Below w.heap.size w w2 := by
      refine Below.trans ?_ (Below.mono hb2 ?_)
      · go_grown
      · first | omega | (simp; done) | (simp; omega)
    have o2_w : ObjAt w2 (w.heap.size) 23 [.int .i64 T, .int .i64 B] := ObjAt.below (H1_w.out) hb2
    clear q1_w_0 q1_w_1 H1_w
    have q2_w_0 := o2_w.cell (i := 0) rfl
    have q2_w_1 := o2_w.cell (i := 1) rfl
    have l2_w := o2_w.lt
    have H2_w := hide o2_w
    clear o2_w
    have hy2 : w.heap.size ≤ w2.heap.size := hB2.size
    clear hb2
    go_wp2_with fail
    refine (error_any c c _ (hE.below (B := w.heap.size) (by go_grown) hE.pos)).mono ?_
    rintro e w3 ⟨rfl, hb3⟩
    have hB3 : Below w.heap.size w w3 := by
      refine Below.trans ?_ (Below.mono hb3 ?_)
      · go_grown
      · first | omega | (simp; done) | (simp; omega)
    have o3_w : ObjAt w3 (w.heap.size) 23 [.int .i64 T, .int .i64 B] := ObjAt.below (H2_w.out) hb3
    clear q2_w_0 q2_w_1 H2_w
    have q3_w_0 := o3_w.cell (i := 0) rfl
    have q3_w_1 := o3_w.cell (i := 1) rfl
    have l3_w := o3_w.lt
    have H3_w := hide o3_w
    clear o3_w
    have hy3 : w.heap.size ≤ w3.heap.size := hB3.size
    clear hb3
    go_wp2_with fail
    refine (TK.out _).mono ?_
    rintro e w4 ⟨rfl, hb4⟩
    have hB4 : Below w.heap.size w w4 := by
      refine Below.trans ?_ (Below.mono hb4 ?_)
      · go_grown
      · first | omega | (simp; done) | (simp; omega)
    have o4_w : ObjAt w4 (w.heap.size) 23 [.int .i64 T, .int .i64 B] := ObjAt.below (ObjAt.alloc (H3_w.out) _) hb4
    have o4_want : ObjAt w4 (w3.heap.size) 23 [.int .i64 0, .int .i64 0] := ObjAt.below (objNew (by simp)) hb4
    clear q3_w_0 q3_w_1 H3_w
    have q4_w_0 := o4_w.cell (i := 0) rfl
    have q4_w_1 := o4_w.cell (i := 1) rfl
    have l4_w := o4_w.lt
    have H4_w := hide o4_w
    clear o4_w
    have q4_want_0 := o4_want.cell (i := 0) rfl
    have f4_want_0 := o4_want.free 0
    have q4_want_1 := o4_want.cell (i := 1) rfl
    have f4_want_1 := o4_want.free 1
    have l4_want := o4_want.lt
    have H4_want := hide o4_want
    clear o4_want
    have hy4 : w.heap.size ≤ w4.heap.size := hB4.size
    clear hb4
    go_wp2_with fail
    refine (error_any c c _ (hE.below (B := w.heap.size) (by go_grown) hE.pos)).mono ?_
    rintro e w5 ⟨rfl, hb5⟩
    have hB5 : Below w.heap.size w w5 := by
      refine Below.trans ?_ (Below.mono hb5 ?_)
      · go_grown
      · first | omega | (simp; done) | (simp; omega)
    have o5_w : ObjAt w5 (w.heap.size) 23 [.int .i64 T, .int .i64 B] := ObjAt.below (ObjAt.alloc (H4_w.out) _) hb5
    have o5_want : ObjAt w5 (w3.heap.size) 23 [.int .i64 0, .int .i64 0] := ObjAt.below (ObjAt.alloc (H4_want.out) _) hb5
    have o5_x : ObjAt w5 (w4.heap.size) 23 [.int .i64 0, .int .i64 0] := ObjAt.below (objNew (by simp)) hb5
    clear q4_w_0 q4_w_1 H4_w q4_want_0 f4_want_0 q4_want_1 f4_want_1 H4_want
    have q5_w_0 := o5_w.cell (i := 0) rfl
    have q5_w_1 := o5_w.cell (i := 1) rfl
    have l5_w := o5_w.lt
    have H5_w := hide o5_w
    clear o5_w
    have q5_want_0 := o5_want.cell (i := 0) rfl
    have f5_want_0 := o5_want.free 0
    have q5_want_1 := o5_want.cell (i := 1) rfl
    have f5_want_1 := o5_want.free 1
    have l5_want := o5_want.lt
    have H5_want := hide o5_want
    clear o5_want
    have q5_x_0 := o5_x.cell (i := 0) rfl
    have q5_x_1 := o5_x.cell (i := 1) rfl
    have l5_x := o5_x.lt
    have H5_x := hide o5_x
    clear o5_x
    have hy5 : w.heap.size ≤ w5.heap.size := hB5.size
    clear hb5
    go_wp2_with fail
    refine (NW.out _).mono ?_
    rintro e w6 ⟨rfl, hb6⟩
    have hB6 : Below w.heap.size w w6 := by
      refine Below.trans ?_ (Below.mono hb6 ?_)
      · go_grown
      · first | omega | (simp; done) | (simp; omega)
    have o6_w : ObjAt w6 (w.heap.size) 23 [.int .i64 T, .int .i64 B] := ObjAt.below (H5_w.out) hb6
    have o6_want : ObjAt w6 (w3.heap.size) 23 [.int .i64 0, .int .i64 0] := ObjAt.below (H5_want.out) hb6
    have o6_x : ObjAt w6 (w4.heap.size) 23 [.int .i64 0, .int .i64 0] := ObjAt.below (H5_x.out) hb6
    clear q5_w_0 q5_w_1 H5_w q5_want_0 f5_want_0 q5_want_1 f5_want_1 H5_want q5_x_0 q5_x_1 H5_x
    have q6_w_0 := o6_w.cell (i := 0) rfl
    have q6_w_1 := o6_w.cell (i := 1) rfl
    have l6_w := o6_w.lt
    have H6_w := hide o6_w
    clear o6_w
    have q6_want_0 := o6_want.cell (i := 0) rfl
    have f6_want_0 := o6_want.free 0
    have q6_want_1 := o6_want.cell (i := 1) rfl
    have f6_want_1 := o6_want.free 1
    have l6_want := o6_want.lt
    have H6_want := hide o6_want
    clear o6_want
    have q6_x_0 := o6_x.cell (i := 0) rfl
    have q6_x_1 := o6_x.cell (i := 1) rfl
    have l6_x := o6_x.lt
    have H6_x := hide o6_x
    clear o6_x
    have hy6 : w.heap.size ≤ w6.heap.size := hB6.size
    clear hb6
    go_wp2
    go_ret
    exact ⟨rfl, by go_grown⟩
end Go.Proofs.YtelegodagepeeaaDoor
