/- The walk of RingTells. -/
import Derived.Test.YtecdkdjenkgbfaaDoorRRing
import Derived.Test.YtecdkdjenkgbfaaDoorErr
import Derived.Test.YtecdkdjenkgbfaaDoorObj4
namespace Go.Proofs.YtecdkdjenkgbfaaDoor
open Go.RowKit

set_option maxRecDepth 100000 in
set_option maxHeartbeats 8000000 in
theorem walkRingTells (w : World) (seed : Int) (_w0 : (Lit.int .i64 seed).wf = true) (e k o : Int) (_w1 : (Lit.int .i64 e).wf = true) (_w2 : (Lit.int .i64 k).wf = true) (_w3 : (Lit.int .i64 o).wf = true) (ep : Int) (_w4 : (Lit.int .i64 ep).wf = true) (hE : ErrT w) :
    Calls Tryd.prog 11 #[.int .i64 seed, .agg #[.int .i64 e, .int .i64 k, .int .i64 o], .int .i64 ep] w fun e w' => e = .returned (.bool true) ∧ Below w.heap.size w w' := by
  clear _w0 _w1 _w2 _w3 _w4
  have SI := hide (fun W => rIn seed W)
  obtain ⟨c, hc⟩ : ∃ c, ringE e k o = c := ⟨_, rfl⟩
  have RR := hide (fun W => rRing_eq hc W)
  have RC := hide (fun W => ringCheck_eq hc W)
  cases hs : inB seed
  · rw [hs] at SI
    have NW := hide (fun W => ringNew_bad hs W)
    clear hs
    by_cases h0 : c = 0
    · subst h0
      obtain ⟨t1, t2, t3, f, hT⟩ : ∃ t1 t2 t3 f, turnN e k = (t1, t2, t3, f) := ⟨_, _, _, _, rfl⟩
      have RT := hide (fun W => rTurn hc hT W)
      have TT := hide (fun W => ringTurn hc hT W)
      have hep : ep < 0 ∨ (0 ≤ ep ∧ 100 < ep) ∨ (0 ≤ ep ∧ ep ≤ 100) := by omega
      obtain ⟨⟨he0, he1⟩, _, _, _⟩ := ringE_ok hc
      have RC' : Hid (∀ W, Calls Tryd.prog 47 #[.agg #[.int .i64 e, .int .i64 k, .int .i64 o]] W fun r w' => r = .returned .nilIface ∧ Below W.heap.size W w') := RC
      rcases hep with h | ⟨h1, h2⟩ | ⟨h1, h2⟩
      · have KK : Hid (∀ W, Calls Tryd.prog 37 #[.agg #[.int .i64 e, .int .i64 k, .int .i64 o], .int .i64 ep] W fun r w' => r = .returned (.tuple #[.int .i64 0, .iface 107 (.int .i64 1)]) ∧ Below W.heap.size W w') := hide (fun W => ringKey (c := 1) (by unfold ringKeyN; rw [if_neg (by simp [hc]), if_neg (by rw [epB_false.2 (by omega)]; simp)]) W)
        clear hT RC hc
        go_enter Tryd.func11, Tryd.ntmps11
        go_wp2_with fail
        refine (SI.out _).mono ?_
        rintro e w501 ⟨rfl, rfl⟩
        go_wp2_with fail
        refine (NW.out _).mono ?_
        rintro e w2 ⟨rfl, hb2⟩
        have hB2 : Below w.heap.size w w2 := by
          refine Below.trans ?_ (Below.mono hb2 ?_)
          · go_grown
          · first | omega | (simp; done) | (simp; omega)
        have o2_r : ObjAt w2 (w.heap.size) 24 [.int .i64 e, .int .i64 k, .int .i64 o] := ObjAt.below (ObjAt.alloc (objNew (by simp)) _) hb2
        have o2_want : ObjAt w2 (w.heap.size + 1) 24 [.int .i64 0, .int .i64 0, .int .i64 0] := ObjAt.below (objNew (by simp)) hb2
        have q2_r_0 := o2_r.cell (i := 0) rfl
        have q2_r_1 := o2_r.cell (i := 1) rfl
        have q2_r_2 := o2_r.cell (i := 2) rfl
        have l2_r := o2_r.lt
        have H2_r := hide o2_r
        clear o2_r
        have q2_want_0 := o2_want.cell (i := 0) rfl
        have f2_want_0 := o2_want.free 0
        have q2_want_1 := o2_want.cell (i := 1) rfl
        have f2_want_1 := o2_want.free 1
        have q2_want_2 := o2_want.cell (i := 2) rfl
        have f2_want_2 := o2_want.free 2
        have l2_want := o2_want.lt
        have H2_want := hide o2_want
        clear o2_want
        have hy2 : w.heap.size ≤ w2.heap.size := hB2.size
        clear hb2
        go_wp2_with fail
        refine (error_any 1 1 _ (hE.below (B := w.heap.size) (by go_grown) hE.pos)).mono ?_
        rintro e w3 ⟨rfl, hb3⟩
        have hB3 : Below w.heap.size w w3 := by
          refine Below.trans ?_ (Below.mono hb3 ?_)
          · go_grown
          · first | omega | (simp; done) | (simp; omega)
        have o3_r : ObjAt w3 (w.heap.size) 24 [.int .i64 e, .int .i64 k, .int .i64 o] := ObjAt.below (ObjAt.alloc (H2_r.out) _) hb3
        have o3_want : ObjAt w3 (w.heap.size + 1) 24 [.int .i64 0, .int .i64 0, .int .i64 0] := ObjAt.below (ObjAt.alloc (H2_want.out) _) hb3
        have o3_x : ObjAt w3 (w2.heap.size) 24 [.int .i64 0, .int .i64 0, .int .i64 0] := ObjAt.below (objNew (by simp)) hb3
        clear q2_r_0 q2_r_1 q2_r_2 H2_r q2_want_0 f2_want_0 q2_want_1 f2_want_1 q2_want_2 f2_want_2 H2_want
        have q3_r_0 := o3_r.cell (i := 0) rfl
        have q3_r_1 := o3_r.cell (i := 1) rfl
        have q3_r_2 := o3_r.cell (i := 2) rfl
        have l3_r := o3_r.lt
        have H3_r := hide o3_r
        clear o3_r
        have q3_want_0 := o3_want.cell (i := 0) rfl
        have f3_want_0 := o3_want.free 0
        have q3_want_1 := o3_want.cell (i := 1) rfl
        have f3_want_1 := o3_want.free 1
        have q3_want_2 := o3_want.cell (i := 2) rfl
        have f3_want_2 := o3_want.free 2
        have l3_want := o3_want.lt
        have H3_want := hide o3_want
        clear o3_want
        have q3_x_0 := o3_x.cell (i := 0) rfl
        have f3_x_0 := o3_x.free 0
        have q3_x_1 := o3_x.cell (i := 1) rfl
        have f3_x_1 := o3_x.free 1
        have q3_x_2 := o3_x.cell (i := 2) rfl
        have f3_x_2 := o3_x.free 2
        have l3_x := o3_x.lt
        have H3_x := hide o3_x
        clear o3_x
        have hy3 : w.heap.size ≤ w3.heap.size := hB3.size
        clear hb3
        go_wp2_with fail
        refine (RR.out _).mono ?_
        rintro e w4 ⟨rfl, hb4⟩
        have hB4 : Below w.heap.size w w4 := by
          refine Below.trans ?_ (Below.mono hb4 ?_)
          · go_grown
          · first | omega | (simp; done) | (simp; omega)
        have o4_r : ObjAt w4 (w.heap.size) 24 [.int .i64 e, .int .i64 k, .int .i64 o] := ObjAt.below (H3_r.out) hb4
        have o4_want : ObjAt w4 (w.heap.size + 1) 24 [.int .i64 0, .int .i64 0, .int .i64 0] := ObjAt.below (H3_want.out) hb4
        have o4_x : ObjAt w4 (w2.heap.size) 24 [.int .i64 0, .int .i64 0, .int .i64 0] := ObjAt.below (H3_x.out) hb4
        clear q3_r_0 q3_r_1 q3_r_2 H3_r q3_want_0 f3_want_0 q3_want_1 f3_want_1 q3_want_2 f3_want_2 H3_want q3_x_0 f3_x_0 q3_x_1 f3_x_1 q3_x_2 f3_x_2 H3_x
        have q4_r_0 := o4_r.cell (i := 0) rfl
        have q4_r_1 := o4_r.cell (i := 1) rfl
        have q4_r_2 := o4_r.cell (i := 2) rfl
        have l4_r := o4_r.lt
        have H4_r := hide o4_r
        clear o4_r
        have q4_want_0 := o4_want.cell (i := 0) rfl
        have f4_want_0 := o4_want.free 0
        have q4_want_1 := o4_want.cell (i := 1) rfl
        have f4_want_1 := o4_want.free 1
        have q4_want_2 := o4_want.cell (i := 2) rfl
        have f4_want_2 := o4_want.free 2
        have l4_want := o4_want.lt
        have H4_want := hide o4_want
        clear o4_want
        have q4_x_0 := o4_x.cell (i := 0) rfl
        have f4_x_0 := o4_x.free 0
        have q4_x_1 := o4_x.cell (i := 1) rfl
        have f4_x_1 := o4_x.free 1
        have q4_x_2 := o4_x.cell (i := 2) rfl
        have f4_x_2 := o4_x.free 2
        have l4_x := o4_x.lt
        have H4_x := hide o4_x
        clear o4_x
        have hy4 : w.heap.size ≤ w4.heap.size := hB4.size
        clear hb4
        go_wp2_with fail
        refine (RC'.out _).mono ?_
        rintro e w5 ⟨rfl, hb5⟩
        have hB5 : Below w.heap.size w w5 := by
          refine Below.trans ?_ (Below.mono hb5 ?_)
          · go_grown
          · first | omega | (simp; done) | (simp; omega)
        have o5_r : ObjAt w5 (w.heap.size) 24 [.int .i64 e, .int .i64 k, .int .i64 o] := ObjAt.below (H4_r.out) hb5
        have o5_want : ObjAt w5 (w.heap.size + 1) 24 [.int .i64 0, .int .i64 0, .int .i64 0] := ObjAt.below (H4_want.out) hb5
        have o5_x : ObjAt w5 (w2.heap.size) 24 [.int .i64 0, .int .i64 0, .int .i64 0] := ObjAt.below (H4_x.out) hb5
        clear q4_r_0 q4_r_1 q4_r_2 H4_r q4_want_0 f4_want_0 q4_want_1 f4_want_1 q4_want_2 f4_want_2 H4_want q4_x_0 f4_x_0 q4_x_1 f4_x_1 q4_x_2 f4_x_2 H4_x
        have q5_r_0 := o5_r.cell (i := 0) rfl
        have q5_r_1 := o5_r.cell (i := 1) rfl
        have q5_r_2 := o5_r.cell (i := 2) rfl
        have l5_r := o5_r.lt
        have H5_r := hide o5_r
        clear o5_r
        have q5_want_0 := o5_want.cell (i := 0) rfl
        have f5_want_0 := o5_want.free 0
        have q5_want_1 := o5_want.cell (i := 1) rfl
        have f5_want_1 := o5_want.free 1
        have q5_want_2 := o5_want.cell (i := 2) rfl
        have f5_want_2 := o5_want.free 2
        have l5_want := o5_want.lt
        have H5_want := hide o5_want
        clear o5_want
        have q5_x_0 := o5_x.cell (i := 0) rfl
        have f5_x_0 := o5_x.free 0
        have q5_x_1 := o5_x.cell (i := 1) rfl
        have f5_x_1 := o5_x.free 1
        have q5_x_2 := o5_x.cell (i := 2) rfl
        have f5_x_2 := o5_x.free 2
        have l5_x := o5_x.lt
        have H5_x := hide o5_x
        clear o5_x
        have hy5 : w.heap.size ≤ w5.heap.size := hB5.size
        clear hb5
        go_wp2_with fail
        refine (error_any 0 0 _ (hE.below (B := w.heap.size) (by go_grown) hE.pos)).mono ?_
        rintro e w6 ⟨rfl, hb6⟩
        have hB6 : Below w.heap.size w w6 := by
          refine Below.trans ?_ (Below.mono hb6 ?_)
          · go_grown
          · first | omega | (simp; done) | (simp; omega)
        have o6_r : ObjAt w6 (w.heap.size) 24 [.int .i64 e, .int .i64 k, .int .i64 o] := ObjAt.below (H5_r.out) hb6
        have o6_want : ObjAt w6 (w.heap.size + 1) 24 [.int .i64 0, .int .i64 0, .int .i64 0] := ObjAt.below (H5_want.out) hb6
        have o6_x : ObjAt w6 (w2.heap.size) 24 [.int .i64 0, .int .i64 0, .int .i64 0] := ObjAt.below (H5_x.out) hb6
        clear q5_r_0 q5_r_1 q5_r_2 H5_r q5_want_0 f5_want_0 q5_want_1 f5_want_1 q5_want_2 f5_want_2 H5_want q5_x_0 f5_x_0 q5_x_1 f5_x_1 q5_x_2 f5_x_2 H5_x
        have q6_r_0 := o6_r.cell (i := 0) rfl
        have q6_r_1 := o6_r.cell (i := 1) rfl
        have q6_r_2 := o6_r.cell (i := 2) rfl
        have l6_r := o6_r.lt
        have H6_r := hide o6_r
        clear o6_r
        have q6_want_0 := o6_want.cell (i := 0) rfl
        have f6_want_0 := o6_want.free 0
        have q6_want_1 := o6_want.cell (i := 1) rfl
        have f6_want_1 := o6_want.free 1
        have q6_want_2 := o6_want.cell (i := 2) rfl
        have f6_want_2 := o6_want.free 2
        have l6_want := o6_want.lt
        have H6_want := hide o6_want
        clear o6_want
        have q6_x_0 := o6_x.cell (i := 0) rfl
        have f6_x_0 := o6_x.free 0
        have q6_x_1 := o6_x.cell (i := 1) rfl
        have f6_x_1 := o6_x.free 1
        have q6_x_2 := o6_x.cell (i := 2) rfl
        have f6_x_2 := o6_x.free 2
        have l6_x := o6_x.lt
        have H6_x := hide o6_x
        clear o6_x
        have hy6 : w.heap.size ≤ w6.heap.size := hB6.size
        clear hb6
        go_wp2_with fail
        refine (RT.out _).mono ?_
        rintro e w7 ⟨rfl, hb7⟩
        have hB7 : Below w.heap.size w w7 := by
          refine Below.trans ?_ (Below.mono hb7 ?_)
          · go_grown
          · first | omega | (simp; done) | (simp; omega)
        have o7_r : ObjAt w7 (w.heap.size) 24 [.int .i64 e, .int .i64 k, .int .i64 o] := ObjAt.below (ObjAt.other3 (H6_r.out) (by omega)) hb7
        have o7_want : ObjAt w7 (w.heap.size + 1) 24 [.int .i64 0, .int .i64 0, .int .i64 0] := ObjAt.below (ObjAt.set3 (H6_want.out)) hb7
        have o7_x : ObjAt w7 (w2.heap.size) 24 [.int .i64 0, .int .i64 0, .int .i64 0] := ObjAt.below (ObjAt.other3 (H6_x.out) (by omega)) hb7
        clear q6_r_0 q6_r_1 q6_r_2 H6_r q6_want_0 f6_want_0 q6_want_1 f6_want_1 q6_want_2 f6_want_2 H6_want q6_x_0 f6_x_0 q6_x_1 f6_x_1 q6_x_2 f6_x_2 H6_x
        have q7_r_0 := o7_r.cell (i := 0) rfl
        have q7_r_1 := o7_r.cell (i := 1) rfl
        have q7_r_2 := o7_r.cell (i := 2) rfl
        have l7_r := o7_r.lt
        have H7_r := hide o7_r
        clear o7_r
        have q7_want_0 := o7_want.cell (i := 0) rfl
        have f7_want_0 := o7_want.free 0
        have q7_want_1 := o7_want.cell (i := 1) rfl
        have f7_want_1 := o7_want.free 1
        have q7_want_2 := o7_want.cell (i := 2) rfl
        have f7_want_2 := o7_want.free 2
        have l7_want := o7_want.lt
        have H7_want := hide o7_want
        clear o7_want
        have q7_x_0 := o7_x.cell (i := 0) rfl
        have f7_x_0 := o7_x.free 0
        have q7_x_1 := o7_x.cell (i := 1) rfl
        have f7_x_1 := o7_x.free 1
        have q7_x_2 := o7_x.cell (i := 2) rfl
        have f7_x_2 := o7_x.free 2
        have l7_x := o7_x.lt
        have H7_x := hide o7_x
        clear o7_x
        have hy7 : w.heap.size ≤ w7.heap.size := hB7.size
        clear hb7
        go_wp2_with fail
        refine (TT.out _).mono ?_
        rintro e w8 ⟨rfl, hb8⟩
        have hB8 : Below w.heap.size w w8 := by
          refine Below.trans ?_ (Below.mono hb8 ?_)
          · go_grown
          · first | omega | (simp; done) | (simp; omega)
        have o8_r : ObjAt w8 (w.heap.size) 24 [.int .i64 e, .int .i64 k, .int .i64 o] := ObjAt.below (ObjAt.other3 (H7_r.out) (by omega)) hb8
        have o8_want : ObjAt w8 (w.heap.size + 1) 24 [.int .i64 t1, .int .i64 t2, .int .i64 t3] := ObjAt.below (ObjAt.set3 (H7_want.out)) hb8
        have o8_x : ObjAt w8 (w2.heap.size) 24 [.int .i64 0, .int .i64 0, .int .i64 0] := ObjAt.below (ObjAt.other3 (H7_x.out) (by omega)) hb8
        clear q7_r_0 q7_r_1 q7_r_2 H7_r q7_want_0 f7_want_0 q7_want_1 f7_want_1 q7_want_2 f7_want_2 H7_want q7_x_0 f7_x_0 q7_x_1 f7_x_1 q7_x_2 f7_x_2 H7_x
        have q8_r_0 := o8_r.cell (i := 0) rfl
        have q8_r_1 := o8_r.cell (i := 1) rfl
        have q8_r_2 := o8_r.cell (i := 2) rfl
        have l8_r := o8_r.lt
        have H8_r := hide o8_r
        clear o8_r
        have q8_want_0 := o8_want.cell (i := 0) rfl
        have f8_want_0 := o8_want.free 0
        have q8_want_1 := o8_want.cell (i := 1) rfl
        have f8_want_1 := o8_want.free 1
        have q8_want_2 := o8_want.cell (i := 2) rfl
        have f8_want_2 := o8_want.free 2
        have l8_want := o8_want.lt
        have H8_want := hide o8_want
        clear o8_want
        have q8_x_0 := o8_x.cell (i := 0) rfl
        have f8_x_0 := o8_x.free 0
        have q8_x_1 := o8_x.cell (i := 1) rfl
        have f8_x_1 := o8_x.free 1
        have q8_x_2 := o8_x.cell (i := 2) rfl
        have f8_x_2 := o8_x.free 2
        have l8_x := o8_x.lt
        have H8_x := hide o8_x
        clear o8_x
        have hy8 : w.heap.size ≤ w8.heap.size := hB8.size
        clear hb8
        go_wp2_with fail
        refine (error_any f f _ (hE.below (B := w.heap.size) (by go_grown) hE.pos)).mono ?_
        rintro e w9 ⟨rfl, hb9⟩
        have hB9 : Below w.heap.size w w9 := by
          refine Below.trans ?_ (Below.mono hb9 ?_)
          · go_grown
          · first | omega | (simp; done) | (simp; omega)
        have o9_r : ObjAt w9 (w.heap.size) 24 [.int .i64 e, .int .i64 k, .int .i64 o] := ObjAt.below (ObjAt.other3 (H8_r.out) (by omega)) hb9
        have o9_want : ObjAt w9 (w.heap.size + 1) 24 [.int .i64 t1, .int .i64 t2, .int .i64 t3] := ObjAt.below (ObjAt.other3 (H8_want.out) (by omega)) hb9
        have o9_x : ObjAt w9 (w2.heap.size) 24 [.int .i64 t1, .int .i64 t2, .int .i64 t3] := ObjAt.below (ObjAt.set3 (H8_x.out)) hb9
        clear q8_r_0 q8_r_1 q8_r_2 H8_r q8_want_0 f8_want_0 q8_want_1 f8_want_1 q8_want_2 f8_want_2 H8_want q8_x_0 f8_x_0 q8_x_1 f8_x_1 q8_x_2 f8_x_2 H8_x
        have q9_r_0 := o9_r.cell (i := 0) rfl
        have q9_r_1 := o9_r.cell (i := 1) rfl
        have q9_r_2 := o9_r.cell (i := 2) rfl
        have l9_r := o9_r.lt
        have H9_r := hide o9_r
        clear o9_r
        have q9_want_0 := o9_want.cell (i := 0) rfl
        have f9_want_0 := o9_want.free 0
        have q9_want_1 := o9_want.cell (i := 1) rfl
        have f9_want_1 := o9_want.free 1
        have q9_want_2 := o9_want.cell (i := 2) rfl
        have f9_want_2 := o9_want.free 2
        have l9_want := o9_want.lt
        have H9_want := hide o9_want
        clear o9_want
        have q9_x_0 := o9_x.cell (i := 0) rfl
        have f9_x_0 := o9_x.free 0
        have q9_x_1 := o9_x.cell (i := 1) rfl
        have f9_x_1 := o9_x.free 1
        have q9_x_2 := o9_x.cell (i := 2) rfl
        have f9_x_2 := o9_x.free 2
        have l9_x := o9_x.lt
        have H9_x := hide o9_x
        clear o9_x
        have hy9 : w.heap.size ≤ w9.heap.size := hB9.size
        clear hb9
        go_wp2_with fail
        refine (KK.out _).mono ?_
        rintro e w10 ⟨rfl, hb10⟩
        have hB10 : Below w.heap.size w w10 := by
          refine Below.trans ?_ (Below.mono hb10 ?_)
          · go_grown
          · first | omega | (simp; done) | (simp; omega)
        have o10_r : ObjAt w10 (w.heap.size) 24 [.int .i64 e, .int .i64 k, .int .i64 o] := ObjAt.below (H9_r.out) hb10
        have o10_want : ObjAt w10 (w.heap.size + 1) 24 [.int .i64 t1, .int .i64 t2, .int .i64 t3] := ObjAt.below (H9_want.out) hb10
        have o10_x : ObjAt w10 (w2.heap.size) 24 [.int .i64 t1, .int .i64 t2, .int .i64 t3] := ObjAt.below (H9_x.out) hb10
        clear q9_r_0 q9_r_1 q9_r_2 H9_r q9_want_0 f9_want_0 q9_want_1 f9_want_1 q9_want_2 f9_want_2 H9_want q9_x_0 f9_x_0 q9_x_1 f9_x_1 q9_x_2 f9_x_2 H9_x
        have q10_r_0 := o10_r.cell (i := 0) rfl
        have q10_r_1 := o10_r.cell (i := 1) rfl
        have q10_r_2 := o10_r.cell (i := 2) rfl
        have l10_r := o10_r.lt
        have H10_r := hide o10_r
        clear o10_r
        have q10_want_0 := o10_want.cell (i := 0) rfl
        have f10_want_0 := o10_want.free 0
        have q10_want_1 := o10_want.cell (i := 1) rfl
        have f10_want_1 := o10_want.free 1
        have q10_want_2 := o10_want.cell (i := 2) rfl
        have f10_want_2 := o10_want.free 2
        have l10_want := o10_want.lt
        have H10_want := hide o10_want
        clear o10_want
        have q10_x_0 := o10_x.cell (i := 0) rfl
        have f10_x_0 := o10_x.free 0
        have q10_x_1 := o10_x.cell (i := 1) rfl
        have f10_x_1 := o10_x.free 1
        have q10_x_2 := o10_x.cell (i := 2) rfl
        have f10_x_2 := o10_x.free 2
        have l10_x := o10_x.lt
        have H10_x := hide o10_x
        clear o10_x
        have hy10 : w.heap.size ≤ w10.heap.size := hB10.size
        clear hb10
        go_wp2_with fail
        refine (error_any 1 1 _ (hE.below (B := w.heap.size) (by go_grown) hE.pos)).mono ?_
        rintro e w11 ⟨rfl, hb11⟩
        have hB11 : Below w.heap.size w w11 := by
          refine Below.trans ?_ (Below.mono hb11 ?_)
          · go_grown
          · first | omega | (simp; done) | (simp; omega)
        have o11_r : ObjAt w11 (w.heap.size) 24 [.int .i64 e, .int .i64 k, .int .i64 o] := ObjAt.below (H10_r.out) hb11
        have o11_want : ObjAt w11 (w.heap.size + 1) 24 [.int .i64 t1, .int .i64 t2, .int .i64 t3] := ObjAt.below (H10_want.out) hb11
        have o11_x : ObjAt w11 (w2.heap.size) 24 [.int .i64 t1, .int .i64 t2, .int .i64 t3] := ObjAt.below (H10_x.out) hb11
        clear q10_r_0 q10_r_1 q10_r_2 H10_r q10_want_0 f10_want_0 q10_want_1 f10_want_1 q10_want_2 f10_want_2 H10_want q10_x_0 f10_x_0 q10_x_1 f10_x_1 q10_x_2 f10_x_2 H10_x
        have q11_r_0 := o11_r.cell (i := 0) rfl
        have q11_r_1 := o11_r.cell (i := 1) rfl
        have q11_r_2 := o11_r.cell (i := 2) rfl
        have l11_r := o11_r.lt
        have H11_r := hide o11_r
        clear o11_r
        have q11_want_0 := o11_want.cell (i := 0) rfl
        have f11_want_0 := o11_want.free 0
        have q11_want_1 := o11_want.cell (i := 1) rfl
        have f11_want_1 := o11_want.free 1
        have q11_want_2 := o11_want.cell (i := 2) rfl
        have f11_want_2 := o11_want.free 2
        have l11_want := o11_want.lt
        have H11_want := hide o11_want
        clear o11_want
        have q11_x_0 := o11_x.cell (i := 0) rfl
        have f11_x_0 := o11_x.free 0
        have q11_x_1 := o11_x.cell (i := 1) rfl
        have f11_x_1 := o11_x.free 1
        have q11_x_2 := o11_x.cell (i := 2) rfl
        have f11_x_2 := o11_x.free 2
        have l11_x := o11_x.lt
        have H11_x := hide o11_x
        clear o11_x
        have hy11 : w.heap.size ≤ w11.heap.size := hB11.size
        clear hb11
        go_wp2
        go_ret
        exact ⟨rfl, by go_grown⟩
      · have KK : Hid (∀ W, Calls Tryd.prog 37 #[.agg #[.int .i64 e, .int .i64 k, .int .i64 o], .int .i64 ep] W fun r w' => r = .returned (.tuple #[.int .i64 0, .iface 107 (.int .i64 1)]) ∧ Below W.heap.size W w') := hide (fun W => ringKey (c := 1) (by unfold ringKeyN; rw [if_neg (by simp [hc]), if_neg (by rw [epB_false.2 (by omega)]; simp)]) W)
        clear hT RC hc
        go_enter Tryd.func11, Tryd.ntmps11
        go_wp2_with fail
        refine (SI.out _).mono ?_
        rintro e w501 ⟨rfl, rfl⟩
        go_wp2_with fail
        refine (NW.out _).mono ?_
        rintro e w2 ⟨rfl, hb2⟩
        have hB2 : Below w.heap.size w w2 := by
          refine Below.trans ?_ (Below.mono hb2 ?_)
          · go_grown
          · first | omega | (simp; done) | (simp; omega)
        have o2_r : ObjAt w2 (w.heap.size) 24 [.int .i64 e, .int .i64 k, .int .i64 o] := ObjAt.below (ObjAt.alloc (objNew (by simp)) _) hb2
        have o2_want : ObjAt w2 (w.heap.size + 1) 24 [.int .i64 0, .int .i64 0, .int .i64 0] := ObjAt.below (objNew (by simp)) hb2
        have q2_r_0 := o2_r.cell (i := 0) rfl
        have q2_r_1 := o2_r.cell (i := 1) rfl
        have q2_r_2 := o2_r.cell (i := 2) rfl
        have l2_r := o2_r.lt
        have H2_r := hide o2_r
        clear o2_r
        have q2_want_0 := o2_want.cell (i := 0) rfl
        have f2_want_0 := o2_want.free 0
        have q2_want_1 := o2_want.cell (i := 1) rfl
        have f2_want_1 := o2_want.free 1
        have q2_want_2 := o2_want.cell (i := 2) rfl
        have f2_want_2 := o2_want.free 2
        have l2_want := o2_want.lt
        have H2_want := hide o2_want
        clear o2_want
        have hy2 : w.heap.size ≤ w2.heap.size := hB2.size
        clear hb2
        go_wp2_with fail
        refine (error_any 1 1 _ (hE.below (B := w.heap.size) (by go_grown) hE.pos)).mono ?_
        rintro e w3 ⟨rfl, hb3⟩
        have hB3 : Below w.heap.size w w3 := by
          refine Below.trans ?_ (Below.mono hb3 ?_)
          · go_grown
          · first | omega | (simp; done) | (simp; omega)
        have o3_r : ObjAt w3 (w.heap.size) 24 [.int .i64 e, .int .i64 k, .int .i64 o] := ObjAt.below (ObjAt.alloc (H2_r.out) _) hb3
        have o3_want : ObjAt w3 (w.heap.size + 1) 24 [.int .i64 0, .int .i64 0, .int .i64 0] := ObjAt.below (ObjAt.alloc (H2_want.out) _) hb3
        have o3_x : ObjAt w3 (w2.heap.size) 24 [.int .i64 0, .int .i64 0, .int .i64 0] := ObjAt.below (objNew (by simp)) hb3
        clear q2_r_0 q2_r_1 q2_r_2 H2_r q2_want_0 f2_want_0 q2_want_1 f2_want_1 q2_want_2 f2_want_2 H2_want
        have q3_r_0 := o3_r.cell (i := 0) rfl
        have q3_r_1 := o3_r.cell (i := 1) rfl
        have q3_r_2 := o3_r.cell (i := 2) rfl
        have l3_r := o3_r.lt
        have H3_r := hide o3_r
        clear o3_r
        have q3_want_0 := o3_want.cell (i := 0) rfl
        have f3_want_0 := o3_want.free 0
        have q3_want_1 := o3_want.cell (i := 1) rfl
        have f3_want_1 := o3_want.free 1
        have q3_want_2 := o3_want.cell (i := 2) rfl
        have f3_want_2 := o3_want.free 2
        have l3_want := o3_want.lt
        have H3_want := hide o3_want
        clear o3_want
        have q3_x_0 := o3_x.cell (i := 0) rfl
        have f3_x_0 := o3_x.free 0
        have q3_x_1 := o3_x.cell (i := 1) rfl
        have f3_x_1 := o3_x.free 1
        have q3_x_2 := o3_x.cell (i := 2) rfl
        have f3_x_2 := o3_x.free 2
        have l3_x := o3_x.lt
        have H3_x := hide o3_x
        clear o3_x
        have hy3 : w.heap.size ≤ w3.heap.size := hB3.size
        clear hb3
        go_wp2_with fail
        refine (RR.out _).mono ?_
        rintro e w4 ⟨rfl, hb4⟩
        have hB4 : Below w.heap.size w w4 := by
          refine Below.trans ?_ (Below.mono hb4 ?_)
          · go_grown
          · first | omega | (simp; done) | (simp; omega)
        have o4_r : ObjAt w4 (w.heap.size) 24 [.int .i64 e, .int .i64 k, .int .i64 o] := ObjAt.below (H3_r.out) hb4
        have o4_want : ObjAt w4 (w.heap.size + 1) 24 [.int .i64 0, .int .i64 0, .int .i64 0] := ObjAt.below (H3_want.out) hb4
        have o4_x : ObjAt w4 (w2.heap.size) 24 [.int .i64 0, .int .i64 0, .int .i64 0] := ObjAt.below (H3_x.out) hb4
        clear q3_r_0 q3_r_1 q3_r_2 H3_r q3_want_0 f3_want_0 q3_want_1 f3_want_1 q3_want_2 f3_want_2 H3_want q3_x_0 f3_x_0 q3_x_1 f3_x_1 q3_x_2 f3_x_2 H3_x
        have q4_r_0 := o4_r.cell (i := 0) rfl
        have q4_r_1 := o4_r.cell (i := 1) rfl
        have q4_r_2 := o4_r.cell (i := 2) rfl
        have l4_r := o4_r.lt
        have H4_r := hide o4_r
        clear o4_r
        have q4_want_0 := o4_want.cell (i := 0) rfl
        have f4_want_0 := o4_want.free 0
        have q4_want_1 := o4_want.cell (i := 1) rfl
        have f4_want_1 := o4_want.free 1
        have q4_want_2 := o4_want.cell (i := 2) rfl
        have f4_want_2 := o4_want.free 2
        have l4_want := o4_want.lt
        have H4_want := hide o4_want
        clear o4_want
        have q4_x_0 := o4_x.cell (i := 0) rfl
        have f4_x_0 := o4_x.free 0
        have q4_x_1 := o4_x.cell (i := 1) rfl
        have f4_x_1 := o4_x.free 1
        have q4_x_2 := o4_x.cell (i := 2) rfl
        have f4_x_2 := o4_x.free 2
        have l4_x := o4_x.lt
        have H4_x := hide o4_x
        clear o4_x
        have hy4 : w.heap.size ≤ w4.heap.size := hB4.size
        clear hb4
        go_wp2_with fail
        refine (RC'.out _).mono ?_
        rintro e w5 ⟨rfl, hb5⟩
        have hB5 : Below w.heap.size w w5 := by
          refine Below.trans ?_ (Below.mono hb5 ?_)
          · go_grown
          · first | omega | (simp; done) | (simp; omega)
        have o5_r : ObjAt w5 (w.heap.size) 24 [.int .i64 e, .int .i64 k, .int .i64 o] := ObjAt.below (H4_r.out) hb5
        have o5_want : ObjAt w5 (w.heap.size + 1) 24 [.int .i64 0, .int .i64 0, .int .i64 0] := ObjAt.below (H4_want.out) hb5
        have o5_x : ObjAt w5 (w2.heap.size) 24 [.int .i64 0, .int .i64 0, .int .i64 0] := ObjAt.below (H4_x.out) hb5
        clear q4_r_0 q4_r_1 q4_r_2 H4_r q4_want_0 f4_want_0 q4_want_1 f4_want_1 q4_want_2 f4_want_2 H4_want q4_x_0 f4_x_0 q4_x_1 f4_x_1 q4_x_2 f4_x_2 H4_x
        have q5_r_0 := o5_r.cell (i := 0) rfl
        have q5_r_1 := o5_r.cell (i := 1) rfl
        have q5_r_2 := o5_r.cell (i := 2) rfl
        have l5_r := o5_r.lt
        have H5_r := hide o5_r
        clear o5_r
        have q5_want_0 := o5_want.cell (i := 0) rfl
        have f5_want_0 := o5_want.free 0
        have q5_want_1 := o5_want.cell (i := 1) rfl
        have f5_want_1 := o5_want.free 1
        have q5_want_2 := o5_want.cell (i := 2) rfl
        have f5_want_2 := o5_want.free 2
        have l5_want := o5_want.lt
        have H5_want := hide o5_want
        clear o5_want
        have q5_x_0 := o5_x.cell (i := 0) rfl
        have f5_x_0 := o5_x.free 0
        have q5_x_1 := o5_x.cell (i := 1) rfl
        have f5_x_1 := o5_x.free 1
        have q5_x_2 := o5_x.cell (i := 2) rfl
        have f5_x_2 := o5_x.free 2
        have l5_x := o5_x.lt
        have H5_x := hide o5_x
        clear o5_x
        have hy5 : w.heap.size ≤ w5.heap.size := hB5.size
        clear hb5
        go_wp2_with fail
        refine (error_any 0 0 _ (hE.below (B := w.heap.size) (by go_grown) hE.pos)).mono ?_
        rintro e w6 ⟨rfl, hb6⟩
        have hB6 : Below w.heap.size w w6 := by
          refine Below.trans ?_ (Below.mono hb6 ?_)
          · go_grown
          · first | omega | (simp; done) | (simp; omega)
        have o6_r : ObjAt w6 (w.heap.size) 24 [.int .i64 e, .int .i64 k, .int .i64 o] := ObjAt.below (H5_r.out) hb6
        have o6_want : ObjAt w6 (w.heap.size + 1) 24 [.int .i64 0, .int .i64 0, .int .i64 0] := ObjAt.below (H5_want.out) hb6
        have o6_x : ObjAt w6 (w2.heap.size) 24 [.int .i64 0, .int .i64 0, .int .i64 0] := ObjAt.below (H5_x.out) hb6
        clear q5_r_0 q5_r_1 q5_r_2 H5_r q5_want_0 f5_want_0 q5_want_1 f5_want_1 q5_want_2 f5_want_2 H5_want q5_x_0 f5_x_0 q5_x_1 f5_x_1 q5_x_2 f5_x_2 H5_x
        have q6_r_0 := o6_r.cell (i := 0) rfl
        have q6_r_1 := o6_r.cell (i := 1) rfl
        have q6_r_2 := o6_r.cell (i := 2) rfl
        have l6_r := o6_r.lt
        have H6_r := hide o6_r
        clear o6_r
        have q6_want_0 := o6_want.cell (i := 0) rfl
        have f6_want_0 := o6_want.free 0
        have q6_want_1 := o6_want.cell (i := 1) rfl
        have f6_want_1 := o6_want.free 1
        have q6_want_2 := o6_want.cell (i := 2) rfl
        have f6_want_2 := o6_want.free 2
        have l6_want := o6_want.lt
        have H6_want := hide o6_want
        clear o6_want
        have q6_x_0 := o6_x.cell (i := 0) rfl
        have f6_x_0 := o6_x.free 0
        have q6_x_1 := o6_x.cell (i := 1) rfl
        have f6_x_1 := o6_x.free 1
        have q6_x_2 := o6_x.cell (i := 2) rfl
        have f6_x_2 := o6_x.free 2
        have l6_x := o6_x.lt
        have H6_x := hide o6_x
        clear o6_x
        have hy6 : w.heap.size ≤ w6.heap.size := hB6.size
        clear hb6
        go_wp2_with fail
        refine (RT.out _).mono ?_
        rintro e w7 ⟨rfl, hb7⟩
        have hB7 : Below w.heap.size w w7 := by
          refine Below.trans ?_ (Below.mono hb7 ?_)
          · go_grown
          · first | omega | (simp; done) | (simp; omega)
        have o7_r : ObjAt w7 (w.heap.size) 24 [.int .i64 e, .int .i64 k, .int .i64 o] := ObjAt.below (ObjAt.other3 (H6_r.out) (by omega)) hb7
        have o7_want : ObjAt w7 (w.heap.size + 1) 24 [.int .i64 0, .int .i64 0, .int .i64 0] := ObjAt.below (ObjAt.set3 (H6_want.out)) hb7
        have o7_x : ObjAt w7 (w2.heap.size) 24 [.int .i64 0, .int .i64 0, .int .i64 0] := ObjAt.below (ObjAt.other3 (H6_x.out) (by omega)) hb7
        clear q6_r_0 q6_r_1 q6_r_2 H6_r q6_want_0 f6_want_0 q6_want_1 f6_want_1 q6_want_2 f6_want_2 H6_want q6_x_0 f6_x_0 q6_x_1 f6_x_1 q6_x_2 f6_x_2 H6_x
        have q7_r_0 := o7_r.cell (i := 0) rfl
        have q7_r_1 := o7_r.cell (i := 1) rfl
        have q7_r_2 := o7_r.cell (i := 2) rfl
        have l7_r := o7_r.lt
        have H7_r := hide o7_r
        clear o7_r
        have q7_want_0 := o7_want.cell (i := 0) rfl
        have f7_want_0 := o7_want.free 0
        have q7_want_1 := o7_want.cell (i := 1) rfl
        have f7_want_1 := o7_want.free 1
        have q7_want_2 := o7_want.cell (i := 2) rfl
        have f7_want_2 := o7_want.free 2
        have l7_want := o7_want.lt
        have H7_want := hide o7_want
        clear o7_want
        have q7_x_0 := o7_x.cell (i := 0) rfl
        have f7_x_0 := o7_x.free 0
        have q7_x_1 := o7_x.cell (i := 1) rfl
        have f7_x_1 := o7_x.free 1
        have q7_x_2 := o7_x.cell (i := 2) rfl
        have f7_x_2 := o7_x.free 2
        have l7_x := o7_x.lt
        have H7_x := hide o7_x
        clear o7_x
        have hy7 : w.heap.size ≤ w7.heap.size := hB7.size
        clear hb7
        go_wp2_with fail
        refine (TT.out _).mono ?_
        rintro e w8 ⟨rfl, hb8⟩
        have hB8 : Below w.heap.size w w8 := by
          refine Below.trans ?_ (Below.mono hb8 ?_)
          · go_grown
          · first | omega | (simp; done) | (simp; omega)
        have o8_r : ObjAt w8 (w.heap.size) 24 [.int .i64 e, .int .i64 k, .int .i64 o] := ObjAt.below (ObjAt.other3 (H7_r.out) (by omega)) hb8
        have o8_want : ObjAt w8 (w.heap.size + 1) 24 [.int .i64 t1, .int .i64 t2, .int .i64 t3] := ObjAt.below (ObjAt.set3 (H7_want.out)) hb8
        have o8_x : ObjAt w8 (w2.heap.size) 24 [.int .i64 0, .int .i64 0, .int .i64 0] := ObjAt.below (ObjAt.other3 (H7_x.out) (by omega)) hb8
        clear q7_r_0 q7_r_1 q7_r_2 H7_r q7_want_0 f7_want_0 q7_want_1 f7_want_1 q7_want_2 f7_want_2 H7_want q7_x_0 f7_x_0 q7_x_1 f7_x_1 q7_x_2 f7_x_2 H7_x
        have q8_r_0 := o8_r.cell (i := 0) rfl
        have q8_r_1 := o8_r.cell (i := 1) rfl
        have q8_r_2 := o8_r.cell (i := 2) rfl
        have l8_r := o8_r.lt
        have H8_r := hide o8_r
        clear o8_r
        have q8_want_0 := o8_want.cell (i := 0) rfl
        have f8_want_0 := o8_want.free 0
        have q8_want_1 := o8_want.cell (i := 1) rfl
        have f8_want_1 := o8_want.free 1
        have q8_want_2 := o8_want.cell (i := 2) rfl
        have f8_want_2 := o8_want.free 2
        have l8_want := o8_want.lt
        have H8_want := hide o8_want
        clear o8_want
        have q8_x_0 := o8_x.cell (i := 0) rfl
        have f8_x_0 := o8_x.free 0
        have q8_x_1 := o8_x.cell (i := 1) rfl
        have f8_x_1 := o8_x.free 1
        have q8_x_2 := o8_x.cell (i := 2) rfl
        have f8_x_2 := o8_x.free 2
        have l8_x := o8_x.lt
        have H8_x := hide o8_x
        clear o8_x
        have hy8 : w.heap.size ≤ w8.heap.size := hB8.size
        clear hb8
        go_wp2_with fail
        refine (error_any f f _ (hE.below (B := w.heap.size) (by go_grown) hE.pos)).mono ?_
        rintro e w9 ⟨rfl, hb9⟩
        have hB9 : Below w.heap.size w w9 := by
          refine Below.trans ?_ (Below.mono hb9 ?_)
          · go_grown
          · first | omega | (simp; done) | (simp; omega)
        have o9_r : ObjAt w9 (w.heap.size) 24 [.int .i64 e, .int .i64 k, .int .i64 o] := ObjAt.below (ObjAt.other3 (H8_r.out) (by omega)) hb9
        have o9_want : ObjAt w9 (w.heap.size + 1) 24 [.int .i64 t1, .int .i64 t2, .int .i64 t3] := ObjAt.below (ObjAt.other3 (H8_want.out) (by omega)) hb9
        have o9_x : ObjAt w9 (w2.heap.size) 24 [.int .i64 t1, .int .i64 t2, .int .i64 t3] := ObjAt.below (ObjAt.set3 (H8_x.out)) hb9
        clear q8_r_0 q8_r_1 q8_r_2 H8_r q8_want_0 f8_want_0 q8_want_1 f8_want_1 q8_want_2 f8_want_2 H8_want q8_x_0 f8_x_0 q8_x_1 f8_x_1 q8_x_2 f8_x_2 H8_x
        have q9_r_0 := o9_r.cell (i := 0) rfl
        have q9_r_1 := o9_r.cell (i := 1) rfl
        have q9_r_2 := o9_r.cell (i := 2) rfl
        have l9_r := o9_r.lt
        have H9_r := hide o9_r
        clear o9_r
        have q9_want_0 := o9_want.cell (i := 0) rfl
        have f9_want_0 := o9_want.free 0
        have q9_want_1 := o9_want.cell (i := 1) rfl
        have f9_want_1 := o9_want.free 1
        have q9_want_2 := o9_want.cell (i := 2) rfl
        have f9_want_2 := o9_want.free 2
        have l9_want := o9_want.lt
        have H9_want := hide o9_want
        clear o9_want
        have q9_x_0 := o9_x.cell (i := 0) rfl
        have f9_x_0 := o9_x.free 0
        have q9_x_1 := o9_x.cell (i := 1) rfl
        have f9_x_1 := o9_x.free 1
        have q9_x_2 := o9_x.cell (i := 2) rfl
        have f9_x_2 := o9_x.free 2
        have l9_x := o9_x.lt
        have H9_x := hide o9_x
        clear o9_x
        have hy9 : w.heap.size ≤ w9.heap.size := hB9.size
        clear hb9
        go_wp2_with fail
        refine (KK.out _).mono ?_
        rintro e w10 ⟨rfl, hb10⟩
        have hB10 : Below w.heap.size w w10 := by
          refine Below.trans ?_ (Below.mono hb10 ?_)
          · go_grown
          · first | omega | (simp; done) | (simp; omega)
        have o10_r : ObjAt w10 (w.heap.size) 24 [.int .i64 e, .int .i64 k, .int .i64 o] := ObjAt.below (H9_r.out) hb10
        have o10_want : ObjAt w10 (w.heap.size + 1) 24 [.int .i64 t1, .int .i64 t2, .int .i64 t3] := ObjAt.below (H9_want.out) hb10
        have o10_x : ObjAt w10 (w2.heap.size) 24 [.int .i64 t1, .int .i64 t2, .int .i64 t3] := ObjAt.below (H9_x.out) hb10
        clear q9_r_0 q9_r_1 q9_r_2 H9_r q9_want_0 f9_want_0 q9_want_1 f9_want_1 q9_want_2 f9_want_2 H9_want q9_x_0 f9_x_0 q9_x_1 f9_x_1 q9_x_2 f9_x_2 H9_x
        have q10_r_0 := o10_r.cell (i := 0) rfl
        have q10_r_1 := o10_r.cell (i := 1) rfl
        have q10_r_2 := o10_r.cell (i := 2) rfl
        have l10_r := o10_r.lt
        have H10_r := hide o10_r
        clear o10_r
        have q10_want_0 := o10_want.cell (i := 0) rfl
        have f10_want_0 := o10_want.free 0
        have q10_want_1 := o10_want.cell (i := 1) rfl
        have f10_want_1 := o10_want.free 1
        have q10_want_2 := o10_want.cell (i := 2) rfl
        have f10_want_2 := o10_want.free 2
        have l10_want := o10_want.lt
        have H10_want := hide o10_want
        clear o10_want
        have q10_x_0 := o10_x.cell (i := 0) rfl
        have f10_x_0 := o10_x.free 0
        have q10_x_1 := o10_x.cell (i := 1) rfl
        have f10_x_1 := o10_x.free 1
        have q10_x_2 := o10_x.cell (i := 2) rfl
        have f10_x_2 := o10_x.free 2
        have l10_x := o10_x.lt
        have H10_x := hide o10_x
        clear o10_x
        have hy10 : w.heap.size ≤ w10.heap.size := hB10.size
        clear hb10
        go_wp2_with fail
        refine (error_any 1 1 _ (hE.below (B := w.heap.size) (by go_grown) hE.pos)).mono ?_
        rintro e w11 ⟨rfl, hb11⟩
        have hB11 : Below w.heap.size w w11 := by
          refine Below.trans ?_ (Below.mono hb11 ?_)
          · go_grown
          · first | omega | (simp; done) | (simp; omega)
        have o11_r : ObjAt w11 (w.heap.size) 24 [.int .i64 e, .int .i64 k, .int .i64 o] := ObjAt.below (H10_r.out) hb11
        have o11_want : ObjAt w11 (w.heap.size + 1) 24 [.int .i64 t1, .int .i64 t2, .int .i64 t3] := ObjAt.below (H10_want.out) hb11
        have o11_x : ObjAt w11 (w2.heap.size) 24 [.int .i64 t1, .int .i64 t2, .int .i64 t3] := ObjAt.below (H10_x.out) hb11
        clear q10_r_0 q10_r_1 q10_r_2 H10_r q10_want_0 f10_want_0 q10_want_1 f10_want_1 q10_want_2 f10_want_2 H10_want q10_x_0 f10_x_0 q10_x_1 f10_x_1 q10_x_2 f10_x_2 H10_x
        have q11_r_0 := o11_r.cell (i := 0) rfl
        have q11_r_1 := o11_r.cell (i := 1) rfl
        have q11_r_2 := o11_r.cell (i := 2) rfl
        have l11_r := o11_r.lt
        have H11_r := hide o11_r
        clear o11_r
        have q11_want_0 := o11_want.cell (i := 0) rfl
        have f11_want_0 := o11_want.free 0
        have q11_want_1 := o11_want.cell (i := 1) rfl
        have f11_want_1 := o11_want.free 1
        have q11_want_2 := o11_want.cell (i := 2) rfl
        have f11_want_2 := o11_want.free 2
        have l11_want := o11_want.lt
        have H11_want := hide o11_want
        clear o11_want
        have q11_x_0 := o11_x.cell (i := 0) rfl
        have f11_x_0 := o11_x.free 0
        have q11_x_1 := o11_x.cell (i := 1) rfl
        have f11_x_1 := o11_x.free 1
        have q11_x_2 := o11_x.cell (i := 2) rfl
        have f11_x_2 := o11_x.free 2
        have l11_x := o11_x.lt
        have H11_x := hide o11_x
        clear o11_x
        have hy11 : w.heap.size ≤ w11.heap.size := hB11.size
        clear hb11
        go_wp2
        go_ret
        exact ⟨rfl, by go_grown⟩
      · obtain ⟨kv, kc, hK⟩ : ∃ kv kc, ringOfN e k o ep = (kv, kc) := ⟨_, _, rfl⟩
        have RK := hide (fun W => rKey_eq hK he0 he1 h1 h2 W)
        have KK := hide (fun W => ringKey (e := e) (k := k) (o := o) (ep := ep) (v := kv) (c := kc) (by unfold ringKeyN; rw [if_neg (by simp [hc]), if_pos (epB_true.2 ⟨h1, h2⟩), hK]) W)
        clear hT RC hc hK
        go_enter Tryd.func11, Tryd.ntmps11
        go_wp2_with fail
        refine (SI.out _).mono ?_
        rintro e w501 ⟨rfl, rfl⟩
        go_wp2_with fail
        refine (NW.out _).mono ?_
        rintro e w2 ⟨rfl, hb2⟩
        have hB2 : Below w.heap.size w w2 := by
          refine Below.trans ?_ (Below.mono hb2 ?_)
          · go_grown
          · first | omega | (simp; done) | (simp; omega)
        have o2_r : ObjAt w2 (w.heap.size) 24 [.int .i64 e, .int .i64 k, .int .i64 o] := ObjAt.below (ObjAt.alloc (objNew (by simp)) _) hb2
        have o2_want : ObjAt w2 (w.heap.size + 1) 24 [.int .i64 0, .int .i64 0, .int .i64 0] := ObjAt.below (objNew (by simp)) hb2
        have q2_r_0 := o2_r.cell (i := 0) rfl
        have q2_r_1 := o2_r.cell (i := 1) rfl
        have q2_r_2 := o2_r.cell (i := 2) rfl
        have l2_r := o2_r.lt
        have H2_r := hide o2_r
        clear o2_r
        have q2_want_0 := o2_want.cell (i := 0) rfl
        have f2_want_0 := o2_want.free 0
        have q2_want_1 := o2_want.cell (i := 1) rfl
        have f2_want_1 := o2_want.free 1
        have q2_want_2 := o2_want.cell (i := 2) rfl
        have f2_want_2 := o2_want.free 2
        have l2_want := o2_want.lt
        have H2_want := hide o2_want
        clear o2_want
        have hy2 : w.heap.size ≤ w2.heap.size := hB2.size
        clear hb2
        go_wp2_with fail
        refine (error_any 1 1 _ (hE.below (B := w.heap.size) (by go_grown) hE.pos)).mono ?_
        rintro e w3 ⟨rfl, hb3⟩
        have hB3 : Below w.heap.size w w3 := by
          refine Below.trans ?_ (Below.mono hb3 ?_)
          · go_grown
          · first | omega | (simp; done) | (simp; omega)
        have o3_r : ObjAt w3 (w.heap.size) 24 [.int .i64 e, .int .i64 k, .int .i64 o] := ObjAt.below (ObjAt.alloc (H2_r.out) _) hb3
        have o3_want : ObjAt w3 (w.heap.size + 1) 24 [.int .i64 0, .int .i64 0, .int .i64 0] := ObjAt.below (ObjAt.alloc (H2_want.out) _) hb3
        have o3_x : ObjAt w3 (w2.heap.size) 24 [.int .i64 0, .int .i64 0, .int .i64 0] := ObjAt.below (objNew (by simp)) hb3
        clear q2_r_0 q2_r_1 q2_r_2 H2_r q2_want_0 f2_want_0 q2_want_1 f2_want_1 q2_want_2 f2_want_2 H2_want
        have q3_r_0 := o3_r.cell (i := 0) rfl
        have q3_r_1 := o3_r.cell (i := 1) rfl
        have q3_r_2 := o3_r.cell (i := 2) rfl
        have l3_r := o3_r.lt
        have H3_r := hide o3_r
        clear o3_r
        have q3_want_0 := o3_want.cell (i := 0) rfl
        have f3_want_0 := o3_want.free 0
        have q3_want_1 := o3_want.cell (i := 1) rfl
        have f3_want_1 := o3_want.free 1
        have q3_want_2 := o3_want.cell (i := 2) rfl
        have f3_want_2 := o3_want.free 2
        have l3_want := o3_want.lt
        have H3_want := hide o3_want
        clear o3_want
        have q3_x_0 := o3_x.cell (i := 0) rfl
        have f3_x_0 := o3_x.free 0
        have q3_x_1 := o3_x.cell (i := 1) rfl
        have f3_x_1 := o3_x.free 1
        have q3_x_2 := o3_x.cell (i := 2) rfl
        have f3_x_2 := o3_x.free 2
        have l3_x := o3_x.lt
        have H3_x := hide o3_x
        clear o3_x
        have hy3 : w.heap.size ≤ w3.heap.size := hB3.size
        clear hb3
        go_wp2_with fail
        refine (RR.out _).mono ?_
        rintro e w4 ⟨rfl, hb4⟩
        have hB4 : Below w.heap.size w w4 := by
          refine Below.trans ?_ (Below.mono hb4 ?_)
          · go_grown
          · first | omega | (simp; done) | (simp; omega)
        have o4_r : ObjAt w4 (w.heap.size) 24 [.int .i64 e, .int .i64 k, .int .i64 o] := ObjAt.below (H3_r.out) hb4
        have o4_want : ObjAt w4 (w.heap.size + 1) 24 [.int .i64 0, .int .i64 0, .int .i64 0] := ObjAt.below (H3_want.out) hb4
        have o4_x : ObjAt w4 (w2.heap.size) 24 [.int .i64 0, .int .i64 0, .int .i64 0] := ObjAt.below (H3_x.out) hb4
        clear q3_r_0 q3_r_1 q3_r_2 H3_r q3_want_0 f3_want_0 q3_want_1 f3_want_1 q3_want_2 f3_want_2 H3_want q3_x_0 f3_x_0 q3_x_1 f3_x_1 q3_x_2 f3_x_2 H3_x
        have q4_r_0 := o4_r.cell (i := 0) rfl
        have q4_r_1 := o4_r.cell (i := 1) rfl
        have q4_r_2 := o4_r.cell (i := 2) rfl
        have l4_r := o4_r.lt
        have H4_r := hide o4_r
        clear o4_r
        have q4_want_0 := o4_want.cell (i := 0) rfl
        have f4_want_0 := o4_want.free 0
        have q4_want_1 := o4_want.cell (i := 1) rfl
        have f4_want_1 := o4_want.free 1
        have q4_want_2 := o4_want.cell (i := 2) rfl
        have f4_want_2 := o4_want.free 2
        have l4_want := o4_want.lt
        have H4_want := hide o4_want
        clear o4_want
        have q4_x_0 := o4_x.cell (i := 0) rfl
        have f4_x_0 := o4_x.free 0
        have q4_x_1 := o4_x.cell (i := 1) rfl
        have f4_x_1 := o4_x.free 1
        have q4_x_2 := o4_x.cell (i := 2) rfl
        have f4_x_2 := o4_x.free 2
        have l4_x := o4_x.lt
        have H4_x := hide o4_x
        clear o4_x
        have hy4 : w.heap.size ≤ w4.heap.size := hB4.size
        clear hb4
        go_wp2_with fail
        refine (RC'.out _).mono ?_
        rintro e w5 ⟨rfl, hb5⟩
        have hB5 : Below w.heap.size w w5 := by
          refine Below.trans ?_ (Below.mono hb5 ?_)
          · go_grown
          · first | omega | (simp; done) | (simp; omega)
        have o5_r : ObjAt w5 (w.heap.size) 24 [.int .i64 e, .int .i64 k, .int .i64 o] := ObjAt.below (H4_r.out) hb5
        have o5_want : ObjAt w5 (w.heap.size + 1) 24 [.int .i64 0, .int .i64 0, .int .i64 0] := ObjAt.below (H4_want.out) hb5
        have o5_x : ObjAt w5 (w2.heap.size) 24 [.int .i64 0, .int .i64 0, .int .i64 0] := ObjAt.below (H4_x.out) hb5
        clear q4_r_0 q4_r_1 q4_r_2 H4_r q4_want_0 f4_want_0 q4_want_1 f4_want_1 q4_want_2 f4_want_2 H4_want q4_x_0 f4_x_0 q4_x_1 f4_x_1 q4_x_2 f4_x_2 H4_x
        have q5_r_0 := o5_r.cell (i := 0) rfl
        have q5_r_1 := o5_r.cell (i := 1) rfl
        have q5_r_2 := o5_r.cell (i := 2) rfl
        have l5_r := o5_r.lt
        have H5_r := hide o5_r
        clear o5_r
        have q5_want_0 := o5_want.cell (i := 0) rfl
        have f5_want_0 := o5_want.free 0
        have q5_want_1 := o5_want.cell (i := 1) rfl
        have f5_want_1 := o5_want.free 1
        have q5_want_2 := o5_want.cell (i := 2) rfl
        have f5_want_2 := o5_want.free 2
        have l5_want := o5_want.lt
        have H5_want := hide o5_want
        clear o5_want
        have q5_x_0 := o5_x.cell (i := 0) rfl
        have f5_x_0 := o5_x.free 0
        have q5_x_1 := o5_x.cell (i := 1) rfl
        have f5_x_1 := o5_x.free 1
        have q5_x_2 := o5_x.cell (i := 2) rfl
        have f5_x_2 := o5_x.free 2
        have l5_x := o5_x.lt
        have H5_x := hide o5_x
        clear o5_x
        have hy5 : w.heap.size ≤ w5.heap.size := hB5.size
        clear hb5
        go_wp2_with fail
        refine (error_any 0 0 _ (hE.below (B := w.heap.size) (by go_grown) hE.pos)).mono ?_
        rintro e w6 ⟨rfl, hb6⟩
        have hB6 : Below w.heap.size w w6 := by
          refine Below.trans ?_ (Below.mono hb6 ?_)
          · go_grown
          · first | omega | (simp; done) | (simp; omega)
        have o6_r : ObjAt w6 (w.heap.size) 24 [.int .i64 e, .int .i64 k, .int .i64 o] := ObjAt.below (H5_r.out) hb6
        have o6_want : ObjAt w6 (w.heap.size + 1) 24 [.int .i64 0, .int .i64 0, .int .i64 0] := ObjAt.below (H5_want.out) hb6
        have o6_x : ObjAt w6 (w2.heap.size) 24 [.int .i64 0, .int .i64 0, .int .i64 0] := ObjAt.below (H5_x.out) hb6
        clear q5_r_0 q5_r_1 q5_r_2 H5_r q5_want_0 f5_want_0 q5_want_1 f5_want_1 q5_want_2 f5_want_2 H5_want q5_x_0 f5_x_0 q5_x_1 f5_x_1 q5_x_2 f5_x_2 H5_x
        have q6_r_0 := o6_r.cell (i := 0) rfl
        have q6_r_1 := o6_r.cell (i := 1) rfl
        have q6_r_2 := o6_r.cell (i := 2) rfl
        have l6_r := o6_r.lt
        have H6_r := hide o6_r
        clear o6_r
        have q6_want_0 := o6_want.cell (i := 0) rfl
        have f6_want_0 := o6_want.free 0
        have q6_want_1 := o6_want.cell (i := 1) rfl
        have f6_want_1 := o6_want.free 1
        have q6_want_2 := o6_want.cell (i := 2) rfl
        have f6_want_2 := o6_want.free 2
        have l6_want := o6_want.lt
        have H6_want := hide o6_want
        clear o6_want
        have q6_x_0 := o6_x.cell (i := 0) rfl
        have f6_x_0 := o6_x.free 0
        have q6_x_1 := o6_x.cell (i := 1) rfl
        have f6_x_1 := o6_x.free 1
        have q6_x_2 := o6_x.cell (i := 2) rfl
        have f6_x_2 := o6_x.free 2
        have l6_x := o6_x.lt
        have H6_x := hide o6_x
        clear o6_x
        have hy6 : w.heap.size ≤ w6.heap.size := hB6.size
        clear hb6
        go_wp2_with fail
        refine (RT.out _).mono ?_
        rintro e w7 ⟨rfl, hb7⟩
        have hB7 : Below w.heap.size w w7 := by
          refine Below.trans ?_ (Below.mono hb7 ?_)
          · go_grown
          · first | omega | (simp; done) | (simp; omega)
        have o7_r : ObjAt w7 (w.heap.size) 24 [.int .i64 e, .int .i64 k, .int .i64 o] := ObjAt.below (ObjAt.other3 (H6_r.out) (by omega)) hb7
        have o7_want : ObjAt w7 (w.heap.size + 1) 24 [.int .i64 0, .int .i64 0, .int .i64 0] := ObjAt.below (ObjAt.set3 (H6_want.out)) hb7
        have o7_x : ObjAt w7 (w2.heap.size) 24 [.int .i64 0, .int .i64 0, .int .i64 0] := ObjAt.below (ObjAt.other3 (H6_x.out) (by omega)) hb7
        clear q6_r_0 q6_r_1 q6_r_2 H6_r q6_want_0 f6_want_0 q6_want_1 f6_want_1 q6_want_2 f6_want_2 H6_want q6_x_0 f6_x_0 q6_x_1 f6_x_1 q6_x_2 f6_x_2 H6_x
        have q7_r_0 := o7_r.cell (i := 0) rfl
        have q7_r_1 := o7_r.cell (i := 1) rfl
        have q7_r_2 := o7_r.cell (i := 2) rfl
        have l7_r := o7_r.lt
        have H7_r := hide o7_r
        clear o7_r
        have q7_want_0 := o7_want.cell (i := 0) rfl
        have f7_want_0 := o7_want.free 0
        have q7_want_1 := o7_want.cell (i := 1) rfl
        have f7_want_1 := o7_want.free 1
        have q7_want_2 := o7_want.cell (i := 2) rfl
        have f7_want_2 := o7_want.free 2
        have l7_want := o7_want.lt
        have H7_want := hide o7_want
        clear o7_want
        have q7_x_0 := o7_x.cell (i := 0) rfl
        have f7_x_0 := o7_x.free 0
        have q7_x_1 := o7_x.cell (i := 1) rfl
        have f7_x_1 := o7_x.free 1
        have q7_x_2 := o7_x.cell (i := 2) rfl
        have f7_x_2 := o7_x.free 2
        have l7_x := o7_x.lt
        have H7_x := hide o7_x
        clear o7_x
        have hy7 : w.heap.size ≤ w7.heap.size := hB7.size
        clear hb7
        go_wp2_with fail
        refine (TT.out _).mono ?_
        rintro e w8 ⟨rfl, hb8⟩
        have hB8 : Below w.heap.size w w8 := by
          refine Below.trans ?_ (Below.mono hb8 ?_)
          · go_grown
          · first | omega | (simp; done) | (simp; omega)
        have o8_r : ObjAt w8 (w.heap.size) 24 [.int .i64 e, .int .i64 k, .int .i64 o] := ObjAt.below (ObjAt.other3 (H7_r.out) (by omega)) hb8
        have o8_want : ObjAt w8 (w.heap.size + 1) 24 [.int .i64 t1, .int .i64 t2, .int .i64 t3] := ObjAt.below (ObjAt.set3 (H7_want.out)) hb8
        have o8_x : ObjAt w8 (w2.heap.size) 24 [.int .i64 0, .int .i64 0, .int .i64 0] := ObjAt.below (ObjAt.other3 (H7_x.out) (by omega)) hb8
        clear q7_r_0 q7_r_1 q7_r_2 H7_r q7_want_0 f7_want_0 q7_want_1 f7_want_1 q7_want_2 f7_want_2 H7_want q7_x_0 f7_x_0 q7_x_1 f7_x_1 q7_x_2 f7_x_2 H7_x
        have q8_r_0 := o8_r.cell (i := 0) rfl
        have q8_r_1 := o8_r.cell (i := 1) rfl
        have q8_r_2 := o8_r.cell (i := 2) rfl
        have l8_r := o8_r.lt
        have H8_r := hide o8_r
        clear o8_r
        have q8_want_0 := o8_want.cell (i := 0) rfl
        have f8_want_0 := o8_want.free 0
        have q8_want_1 := o8_want.cell (i := 1) rfl
        have f8_want_1 := o8_want.free 1
        have q8_want_2 := o8_want.cell (i := 2) rfl
        have f8_want_2 := o8_want.free 2
        have l8_want := o8_want.lt
        have H8_want := hide o8_want
        clear o8_want
        have q8_x_0 := o8_x.cell (i := 0) rfl
        have f8_x_0 := o8_x.free 0
        have q8_x_1 := o8_x.cell (i := 1) rfl
        have f8_x_1 := o8_x.free 1
        have q8_x_2 := o8_x.cell (i := 2) rfl
        have f8_x_2 := o8_x.free 2
        have l8_x := o8_x.lt
        have H8_x := hide o8_x
        clear o8_x
        have hy8 : w.heap.size ≤ w8.heap.size := hB8.size
        clear hb8
        go_wp2_with fail
        refine (error_any f f _ (hE.below (B := w.heap.size) (by go_grown) hE.pos)).mono ?_
        rintro e w9 ⟨rfl, hb9⟩
        have hB9 : Below w.heap.size w w9 := by
          refine Below.trans ?_ (Below.mono hb9 ?_)
          · go_grown
          · first | omega | (simp; done) | (simp; omega)
        have o9_r : ObjAt w9 (w.heap.size) 24 [.int .i64 e, .int .i64 k, .int .i64 o] := ObjAt.below (ObjAt.other3 (H8_r.out) (by omega)) hb9
        have o9_want : ObjAt w9 (w.heap.size + 1) 24 [.int .i64 t1, .int .i64 t2, .int .i64 t3] := ObjAt.below (ObjAt.other3 (H8_want.out) (by omega)) hb9
        have o9_x : ObjAt w9 (w2.heap.size) 24 [.int .i64 t1, .int .i64 t2, .int .i64 t3] := ObjAt.below (ObjAt.set3 (H8_x.out)) hb9
        clear q8_r_0 q8_r_1 q8_r_2 H8_r q8_want_0 f8_want_0 q8_want_1 f8_want_1 q8_want_2 f8_want_2 H8_want q8_x_0 f8_x_0 q8_x_1 f8_x_1 q8_x_2 f8_x_2 H8_x
        have q9_r_0 := o9_r.cell (i := 0) rfl
        have q9_r_1 := o9_r.cell (i := 1) rfl
        have q9_r_2 := o9_r.cell (i := 2) rfl
        have l9_r := o9_r.lt
        have H9_r := hide o9_r
        clear o9_r
        have q9_want_0 := o9_want.cell (i := 0) rfl
        have f9_want_0 := o9_want.free 0
        have q9_want_1 := o9_want.cell (i := 1) rfl
        have f9_want_1 := o9_want.free 1
        have q9_want_2 := o9_want.cell (i := 2) rfl
        have f9_want_2 := o9_want.free 2
        have l9_want := o9_want.lt
        have H9_want := hide o9_want
        clear o9_want
        have q9_x_0 := o9_x.cell (i := 0) rfl
        have f9_x_0 := o9_x.free 0
        have q9_x_1 := o9_x.cell (i := 1) rfl
        have f9_x_1 := o9_x.free 1
        have q9_x_2 := o9_x.cell (i := 2) rfl
        have f9_x_2 := o9_x.free 2
        have l9_x := o9_x.lt
        have H9_x := hide o9_x
        clear o9_x
        have hy9 : w.heap.size ≤ w9.heap.size := hB9.size
        clear hb9
        go_wp2_with fail
        refine (RK.out _).mono ?_
        rintro e w10 ⟨rfl, hb10⟩
        have hB10 : Below w.heap.size w w10 := by
          refine Below.trans ?_ (Below.mono hb10 ?_)
          · go_grown
          · first | omega | (simp; done) | (simp; omega)
        have o10_r : ObjAt w10 (w.heap.size) 24 [.int .i64 e, .int .i64 k, .int .i64 o] := ObjAt.below (H9_r.out) hb10
        have o10_want : ObjAt w10 (w.heap.size + 1) 24 [.int .i64 t1, .int .i64 t2, .int .i64 t3] := ObjAt.below (H9_want.out) hb10
        have o10_x : ObjAt w10 (w2.heap.size) 24 [.int .i64 t1, .int .i64 t2, .int .i64 t3] := ObjAt.below (H9_x.out) hb10
        clear q9_r_0 q9_r_1 q9_r_2 H9_r q9_want_0 f9_want_0 q9_want_1 f9_want_1 q9_want_2 f9_want_2 H9_want q9_x_0 f9_x_0 q9_x_1 f9_x_1 q9_x_2 f9_x_2 H9_x
        have q10_r_0 := o10_r.cell (i := 0) rfl
        have q10_r_1 := o10_r.cell (i := 1) rfl
        have q10_r_2 := o10_r.cell (i := 2) rfl
        have l10_r := o10_r.lt
        have H10_r := hide o10_r
        clear o10_r
        have q10_want_0 := o10_want.cell (i := 0) rfl
        have f10_want_0 := o10_want.free 0
        have q10_want_1 := o10_want.cell (i := 1) rfl
        have f10_want_1 := o10_want.free 1
        have q10_want_2 := o10_want.cell (i := 2) rfl
        have f10_want_2 := o10_want.free 2
        have l10_want := o10_want.lt
        have H10_want := hide o10_want
        clear o10_want
        have q10_x_0 := o10_x.cell (i := 0) rfl
        have f10_x_0 := o10_x.free 0
        have q10_x_1 := o10_x.cell (i := 1) rfl
        have f10_x_1 := o10_x.free 1
        have q10_x_2 := o10_x.cell (i := 2) rfl
        have f10_x_2 := o10_x.free 2
        have l10_x := o10_x.lt
        have H10_x := hide o10_x
        clear o10_x
        have hy10 : w.heap.size ≤ w10.heap.size := hB10.size
        clear hb10
        go_wp2_with fail
        refine (KK.out _).mono ?_
        rintro e w11 ⟨rfl, hb11⟩
        have hB11 : Below w.heap.size w w11 := by
          refine Below.trans ?_ (Below.mono hb11 ?_)
          · go_grown
          · first | omega | (simp; done) | (simp; omega)
        have o11_r : ObjAt w11 (w.heap.size) 24 [.int .i64 e, .int .i64 k, .int .i64 o] := ObjAt.below (H10_r.out) hb11
        have o11_want : ObjAt w11 (w.heap.size + 1) 24 [.int .i64 t1, .int .i64 t2, .int .i64 t3] := ObjAt.below (H10_want.out) hb11
        have o11_x : ObjAt w11 (w2.heap.size) 24 [.int .i64 t1, .int .i64 t2, .int .i64 t3] := ObjAt.below (H10_x.out) hb11
        clear q10_r_0 q10_r_1 q10_r_2 H10_r q10_want_0 f10_want_0 q10_want_1 f10_want_1 q10_want_2 f10_want_2 H10_want q10_x_0 f10_x_0 q10_x_1 f10_x_1 q10_x_2 f10_x_2 H10_x
        have q11_r_0 := o11_r.cell (i := 0) rfl
        have q11_r_1 := o11_r.cell (i := 1) rfl
        have q11_r_2 := o11_r.cell (i := 2) rfl
        have l11_r := o11_r.lt
        have H11_r := hide o11_r
        clear o11_r
        have q11_want_0 := o11_want.cell (i := 0) rfl
        have f11_want_0 := o11_want.free 0
        have q11_want_1 := o11_want.cell (i := 1) rfl
        have f11_want_1 := o11_want.free 1
        have q11_want_2 := o11_want.cell (i := 2) rfl
        have f11_want_2 := o11_want.free 2
        have l11_want := o11_want.lt
        have H11_want := hide o11_want
        clear o11_want
        have q11_x_0 := o11_x.cell (i := 0) rfl
        have f11_x_0 := o11_x.free 0
        have q11_x_1 := o11_x.cell (i := 1) rfl
        have f11_x_1 := o11_x.free 1
        have q11_x_2 := o11_x.cell (i := 2) rfl
        have f11_x_2 := o11_x.free 2
        have l11_x := o11_x.lt
        have H11_x := hide o11_x
        clear o11_x
        have hy11 : w.heap.size ≤ w11.heap.size := hB11.size
        clear hb11
        go_wp2_with fail
        refine (error_any kc kc _ (hE.below (B := w.heap.size) (by go_grown) hE.pos)).mono ?_
        rintro e w12 ⟨rfl, hb12⟩
        have hB12 : Below w.heap.size w w12 := by
          refine Below.trans ?_ (Below.mono hb12 ?_)
          · go_grown
          · first | omega | (simp; done) | (simp; omega)
        have o12_r : ObjAt w12 (w.heap.size) 24 [.int .i64 e, .int .i64 k, .int .i64 o] := ObjAt.below (H11_r.out) hb12
        have o12_want : ObjAt w12 (w.heap.size + 1) 24 [.int .i64 t1, .int .i64 t2, .int .i64 t3] := ObjAt.below (H11_want.out) hb12
        have o12_x : ObjAt w12 (w2.heap.size) 24 [.int .i64 t1, .int .i64 t2, .int .i64 t3] := ObjAt.below (H11_x.out) hb12
        clear q11_r_0 q11_r_1 q11_r_2 H11_r q11_want_0 f11_want_0 q11_want_1 f11_want_1 q11_want_2 f11_want_2 H11_want q11_x_0 f11_x_0 q11_x_1 f11_x_1 q11_x_2 f11_x_2 H11_x
        have q12_r_0 := o12_r.cell (i := 0) rfl
        have q12_r_1 := o12_r.cell (i := 1) rfl
        have q12_r_2 := o12_r.cell (i := 2) rfl
        have l12_r := o12_r.lt
        have H12_r := hide o12_r
        clear o12_r
        have q12_want_0 := o12_want.cell (i := 0) rfl
        have f12_want_0 := o12_want.free 0
        have q12_want_1 := o12_want.cell (i := 1) rfl
        have f12_want_1 := o12_want.free 1
        have q12_want_2 := o12_want.cell (i := 2) rfl
        have f12_want_2 := o12_want.free 2
        have l12_want := o12_want.lt
        have H12_want := hide o12_want
        clear o12_want
        have q12_x_0 := o12_x.cell (i := 0) rfl
        have f12_x_0 := o12_x.free 0
        have q12_x_1 := o12_x.cell (i := 1) rfl
        have f12_x_1 := o12_x.free 1
        have q12_x_2 := o12_x.cell (i := 2) rfl
        have f12_x_2 := o12_x.free 2
        have l12_x := o12_x.lt
        have H12_x := hide o12_x
        clear o12_x
        have hy12 : w.heap.size ≤ w12.heap.size := hB12.size
        clear hb12
        go_wp2
        go_ret
        exact ⟨rfl, by go_grown⟩
    · have t1 : (c == 0) = false := beq_eq_false_iff_ne.2 h0
      have TT := hide (fun W => ringTurn_bad hc h0 W)
      have KK := hide (fun W => ringKey (e := e) (k := k) (o := o) (ep := ep) (v := 0) (c := c) (by unfold ringKeyN; rw [if_pos (by rw [hc]; exact h0), hc]) W)
      clear hc h0
      go_enter Tryd.func11, Tryd.ntmps11
      go_wp2_with fail
      refine (SI.out _).mono ?_
      rintro e w501 ⟨rfl, rfl⟩
      go_wp2_with fail
      refine (NW.out _).mono ?_
      rintro e w2 ⟨rfl, hb2⟩
      have hB2 : Below w.heap.size w w2 := by
        refine Below.trans ?_ (Below.mono hb2 ?_)
        · go_grown
        · first | omega | (simp; done) | (simp; omega)
      have o2_r : ObjAt w2 (w.heap.size) 24 [.int .i64 e, .int .i64 k, .int .i64 o] := ObjAt.below (ObjAt.alloc (objNew (by simp)) _) hb2
      have o2_want : ObjAt w2 (w.heap.size + 1) 24 [.int .i64 0, .int .i64 0, .int .i64 0] := ObjAt.below (objNew (by simp)) hb2
      have q2_r_0 := o2_r.cell (i := 0) rfl
      have q2_r_1 := o2_r.cell (i := 1) rfl
      have q2_r_2 := o2_r.cell (i := 2) rfl
      have l2_r := o2_r.lt
      have H2_r := hide o2_r
      clear o2_r
      have q2_want_0 := o2_want.cell (i := 0) rfl
      have f2_want_0 := o2_want.free 0
      have q2_want_1 := o2_want.cell (i := 1) rfl
      have f2_want_1 := o2_want.free 1
      have q2_want_2 := o2_want.cell (i := 2) rfl
      have f2_want_2 := o2_want.free 2
      have l2_want := o2_want.lt
      have H2_want := hide o2_want
      clear o2_want
      have hy2 : w.heap.size ≤ w2.heap.size := hB2.size
      clear hb2
      go_wp2_with fail
      refine (error_any 1 1 _ (hE.below (B := w.heap.size) (by go_grown) hE.pos)).mono ?_
      rintro e w3 ⟨rfl, hb3⟩
      have hB3 : Below w.heap.size w w3 := by
        refine Below.trans ?_ (Below.mono hb3 ?_)
        · go_grown
        · first | omega | (simp; done) | (simp; omega)
      have o3_r : ObjAt w3 (w.heap.size) 24 [.int .i64 e, .int .i64 k, .int .i64 o] := ObjAt.below (ObjAt.alloc (H2_r.out) _) hb3
      have o3_want : ObjAt w3 (w.heap.size + 1) 24 [.int .i64 0, .int .i64 0, .int .i64 0] := ObjAt.below (ObjAt.alloc (H2_want.out) _) hb3
      have o3_x : ObjAt w3 (w2.heap.size) 24 [.int .i64 0, .int .i64 0, .int .i64 0] := ObjAt.below (objNew (by simp)) hb3
      clear q2_r_0 q2_r_1 q2_r_2 H2_r q2_want_0 f2_want_0 q2_want_1 f2_want_1 q2_want_2 f2_want_2 H2_want
      have q3_r_0 := o3_r.cell (i := 0) rfl
      have q3_r_1 := o3_r.cell (i := 1) rfl
      have q3_r_2 := o3_r.cell (i := 2) rfl
      have l3_r := o3_r.lt
      have H3_r := hide o3_r
      clear o3_r
      have q3_want_0 := o3_want.cell (i := 0) rfl
      have f3_want_0 := o3_want.free 0
      have q3_want_1 := o3_want.cell (i := 1) rfl
      have f3_want_1 := o3_want.free 1
      have q3_want_2 := o3_want.cell (i := 2) rfl
      have f3_want_2 := o3_want.free 2
      have l3_want := o3_want.lt
      have H3_want := hide o3_want
      clear o3_want
      have q3_x_0 := o3_x.cell (i := 0) rfl
      have f3_x_0 := o3_x.free 0
      have q3_x_1 := o3_x.cell (i := 1) rfl
      have f3_x_1 := o3_x.free 1
      have q3_x_2 := o3_x.cell (i := 2) rfl
      have f3_x_2 := o3_x.free 2
      have l3_x := o3_x.lt
      have H3_x := hide o3_x
      clear o3_x
      have hy3 : w.heap.size ≤ w3.heap.size := hB3.size
      clear hb3
      go_wp2_with fail
      refine (RR.out _).mono ?_
      rintro e w4 ⟨rfl, hb4⟩
      have hB4 : Below w.heap.size w w4 := by
        refine Below.trans ?_ (Below.mono hb4 ?_)
        · go_grown
        · first | omega | (simp; done) | (simp; omega)
      have o4_r : ObjAt w4 (w.heap.size) 24 [.int .i64 e, .int .i64 k, .int .i64 o] := ObjAt.below (H3_r.out) hb4
      have o4_want : ObjAt w4 (w.heap.size + 1) 24 [.int .i64 0, .int .i64 0, .int .i64 0] := ObjAt.below (H3_want.out) hb4
      have o4_x : ObjAt w4 (w2.heap.size) 24 [.int .i64 0, .int .i64 0, .int .i64 0] := ObjAt.below (H3_x.out) hb4
      clear q3_r_0 q3_r_1 q3_r_2 H3_r q3_want_0 f3_want_0 q3_want_1 f3_want_1 q3_want_2 f3_want_2 H3_want q3_x_0 f3_x_0 q3_x_1 f3_x_1 q3_x_2 f3_x_2 H3_x
      have q4_r_0 := o4_r.cell (i := 0) rfl
      have q4_r_1 := o4_r.cell (i := 1) rfl
      have q4_r_2 := o4_r.cell (i := 2) rfl
      have l4_r := o4_r.lt
      have H4_r := hide o4_r
      clear o4_r
      have q4_want_0 := o4_want.cell (i := 0) rfl
      have f4_want_0 := o4_want.free 0
      have q4_want_1 := o4_want.cell (i := 1) rfl
      have f4_want_1 := o4_want.free 1
      have q4_want_2 := o4_want.cell (i := 2) rfl
      have f4_want_2 := o4_want.free 2
      have l4_want := o4_want.lt
      have H4_want := hide o4_want
      clear o4_want
      have q4_x_0 := o4_x.cell (i := 0) rfl
      have f4_x_0 := o4_x.free 0
      have q4_x_1 := o4_x.cell (i := 1) rfl
      have f4_x_1 := o4_x.free 1
      have q4_x_2 := o4_x.cell (i := 2) rfl
      have f4_x_2 := o4_x.free 2
      have l4_x := o4_x.lt
      have H4_x := hide o4_x
      clear o4_x
      have hy4 : w.heap.size ≤ w4.heap.size := hB4.size
      clear hb4
      go_wp2_with fail
      refine (RC.out _).mono ?_
      rintro e w5 ⟨rfl, hb5⟩
      have hB5 : Below w.heap.size w w5 := by
        refine Below.trans ?_ (Below.mono hb5 ?_)
        · go_grown
        · first | omega | (simp; done) | (simp; omega)
      have o5_r : ObjAt w5 (w.heap.size) 24 [.int .i64 e, .int .i64 k, .int .i64 o] := ObjAt.below (H4_r.out) hb5
      have o5_want : ObjAt w5 (w.heap.size + 1) 24 [.int .i64 0, .int .i64 0, .int .i64 0] := ObjAt.below (H4_want.out) hb5
      have o5_x : ObjAt w5 (w2.heap.size) 24 [.int .i64 0, .int .i64 0, .int .i64 0] := ObjAt.below (H4_x.out) hb5
      clear q4_r_0 q4_r_1 q4_r_2 H4_r q4_want_0 f4_want_0 q4_want_1 f4_want_1 q4_want_2 f4_want_2 H4_want q4_x_0 f4_x_0 q4_x_1 f4_x_1 q4_x_2 f4_x_2 H4_x
      have q5_r_0 := o5_r.cell (i := 0) rfl
      have q5_r_1 := o5_r.cell (i := 1) rfl
      have q5_r_2 := o5_r.cell (i := 2) rfl
      have l5_r := o5_r.lt
      have H5_r := hide o5_r
      clear o5_r
      have q5_want_0 := o5_want.cell (i := 0) rfl
      have f5_want_0 := o5_want.free 0
      have q5_want_1 := o5_want.cell (i := 1) rfl
      have f5_want_1 := o5_want.free 1
      have q5_want_2 := o5_want.cell (i := 2) rfl
      have f5_want_2 := o5_want.free 2
      have l5_want := o5_want.lt
      have H5_want := hide o5_want
      clear o5_want
      have q5_x_0 := o5_x.cell (i := 0) rfl
      have f5_x_0 := o5_x.free 0
      have q5_x_1 := o5_x.cell (i := 1) rfl
      have f5_x_1 := o5_x.free 1
      have q5_x_2 := o5_x.cell (i := 2) rfl
      have f5_x_2 := o5_x.free 2
      have l5_x := o5_x.lt
      have H5_x := hide o5_x
      clear o5_x
      have hy5 : w.heap.size ≤ w5.heap.size := hB5.size
      clear hb5
      go_wp2_with fail
      refine (error_any c c _ (hE.below (B := w.heap.size) (by go_grown) hE.pos)).mono ?_
      rintro e w6 ⟨rfl, hb6⟩
      have hB6 : Below w.heap.size w w6 := by
        refine Below.trans ?_ (Below.mono hb6 ?_)
        · go_grown
        · first | omega | (simp; done) | (simp; omega)
      have o6_r : ObjAt w6 (w.heap.size) 24 [.int .i64 e, .int .i64 k, .int .i64 o] := ObjAt.below (H5_r.out) hb6
      have o6_want : ObjAt w6 (w.heap.size + 1) 24 [.int .i64 0, .int .i64 0, .int .i64 0] := ObjAt.below (H5_want.out) hb6
      have o6_x : ObjAt w6 (w2.heap.size) 24 [.int .i64 0, .int .i64 0, .int .i64 0] := ObjAt.below (H5_x.out) hb6
      clear q5_r_0 q5_r_1 q5_r_2 H5_r q5_want_0 f5_want_0 q5_want_1 f5_want_1 q5_want_2 f5_want_2 H5_want q5_x_0 f5_x_0 q5_x_1 f5_x_1 q5_x_2 f5_x_2 H5_x
      have q6_r_0 := o6_r.cell (i := 0) rfl
      have q6_r_1 := o6_r.cell (i := 1) rfl
      have q6_r_2 := o6_r.cell (i := 2) rfl
      have l6_r := o6_r.lt
      have H6_r := hide o6_r
      clear o6_r
      have q6_want_0 := o6_want.cell (i := 0) rfl
      have f6_want_0 := o6_want.free 0
      have q6_want_1 := o6_want.cell (i := 1) rfl
      have f6_want_1 := o6_want.free 1
      have q6_want_2 := o6_want.cell (i := 2) rfl
      have f6_want_2 := o6_want.free 2
      have l6_want := o6_want.lt
      have H6_want := hide o6_want
      clear o6_want
      have q6_x_0 := o6_x.cell (i := 0) rfl
      have f6_x_0 := o6_x.free 0
      have q6_x_1 := o6_x.cell (i := 1) rfl
      have f6_x_1 := o6_x.free 1
      have q6_x_2 := o6_x.cell (i := 2) rfl
      have f6_x_2 := o6_x.free 2
      have l6_x := o6_x.lt
      have H6_x := hide o6_x
      clear o6_x
      have hy6 : w.heap.size ≤ w6.heap.size := hB6.size
      clear hb6
      go_wp2_with fail
      refine (TT.out _).mono ?_
      rintro e w7 ⟨rfl, hb7⟩
      have hB7 : Below w.heap.size w w7 := by
        refine Below.trans ?_ (Below.mono hb7 ?_)
        · go_grown
        · first | omega | (simp; done) | (simp; omega)
      have o7_r : ObjAt w7 (w.heap.size) 24 [.int .i64 e, .int .i64 k, .int .i64 o] := ObjAt.below (ObjAt.other3 (H6_r.out) (by omega)) hb7
      have o7_want : ObjAt w7 (w.heap.size + 1) 24 [.int .i64 0, .int .i64 0, .int .i64 0] := ObjAt.below (ObjAt.set3 (H6_want.out)) hb7
      have o7_x : ObjAt w7 (w2.heap.size) 24 [.int .i64 0, .int .i64 0, .int .i64 0] := ObjAt.below (ObjAt.other3 (H6_x.out) (by omega)) hb7
      clear q6_r_0 q6_r_1 q6_r_2 H6_r q6_want_0 f6_want_0 q6_want_1 f6_want_1 q6_want_2 f6_want_2 H6_want q6_x_0 f6_x_0 q6_x_1 f6_x_1 q6_x_2 f6_x_2 H6_x
      have q7_r_0 := o7_r.cell (i := 0) rfl
      have q7_r_1 := o7_r.cell (i := 1) rfl
      have q7_r_2 := o7_r.cell (i := 2) rfl
      have l7_r := o7_r.lt
      have H7_r := hide o7_r
      clear o7_r
      have q7_want_0 := o7_want.cell (i := 0) rfl
      have f7_want_0 := o7_want.free 0
      have q7_want_1 := o7_want.cell (i := 1) rfl
      have f7_want_1 := o7_want.free 1
      have q7_want_2 := o7_want.cell (i := 2) rfl
      have f7_want_2 := o7_want.free 2
      have l7_want := o7_want.lt
      have H7_want := hide o7_want
      clear o7_want
      have q7_x_0 := o7_x.cell (i := 0) rfl
      have f7_x_0 := o7_x.free 0
      have q7_x_1 := o7_x.cell (i := 1) rfl
      have f7_x_1 := o7_x.free 1
      have q7_x_2 := o7_x.cell (i := 2) rfl
      have f7_x_2 := o7_x.free 2
      have l7_x := o7_x.lt
      have H7_x := hide o7_x
      clear o7_x
      have hy7 : w.heap.size ≤ w7.heap.size := hB7.size
      clear hb7
      go_wp2_with fail
      refine (error_any c c _ (hE.below (B := w.heap.size) (by go_grown) hE.pos)).mono ?_
      rintro e w8 ⟨rfl, hb8⟩
      have hB8 : Below w.heap.size w w8 := by
        refine Below.trans ?_ (Below.mono hb8 ?_)
        · go_grown
        · first | omega | (simp; done) | (simp; omega)
      have o8_r : ObjAt w8 (w.heap.size) 24 [.int .i64 e, .int .i64 k, .int .i64 o] := ObjAt.below (ObjAt.other3 (H7_r.out) (by omega)) hb8
      have o8_want : ObjAt w8 (w.heap.size + 1) 24 [.int .i64 0, .int .i64 0, .int .i64 0] := ObjAt.below (ObjAt.other3 (H7_want.out) (by omega)) hb8
      have o8_x : ObjAt w8 (w2.heap.size) 24 [.int .i64 0, .int .i64 0, .int .i64 0] := ObjAt.below (ObjAt.set3 (H7_x.out)) hb8
      clear q7_r_0 q7_r_1 q7_r_2 H7_r q7_want_0 f7_want_0 q7_want_1 f7_want_1 q7_want_2 f7_want_2 H7_want q7_x_0 f7_x_0 q7_x_1 f7_x_1 q7_x_2 f7_x_2 H7_x
      have q8_r_0 := o8_r.cell (i := 0) rfl
      have q8_r_1 := o8_r.cell (i := 1) rfl
      have q8_r_2 := o8_r.cell (i := 2) rfl
      have l8_r := o8_r.lt
      have H8_r := hide o8_r
      clear o8_r
      have q8_want_0 := o8_want.cell (i := 0) rfl
      have f8_want_0 := o8_want.free 0
      have q8_want_1 := o8_want.cell (i := 1) rfl
      have f8_want_1 := o8_want.free 1
      have q8_want_2 := o8_want.cell (i := 2) rfl
      have f8_want_2 := o8_want.free 2
      have l8_want := o8_want.lt
      have H8_want := hide o8_want
      clear o8_want
      have q8_x_0 := o8_x.cell (i := 0) rfl
      have f8_x_0 := o8_x.free 0
      have q8_x_1 := o8_x.cell (i := 1) rfl
      have f8_x_1 := o8_x.free 1
      have q8_x_2 := o8_x.cell (i := 2) rfl
      have f8_x_2 := o8_x.free 2
      have l8_x := o8_x.lt
      have H8_x := hide o8_x
      clear o8_x
      have hy8 : w.heap.size ≤ w8.heap.size := hB8.size
      clear hb8
      go_wp2_with fail
      refine (KK.out _).mono ?_
      rintro e w9 ⟨rfl, hb9⟩
      have hB9 : Below w.heap.size w w9 := by
        refine Below.trans ?_ (Below.mono hb9 ?_)
        · go_grown
        · first | omega | (simp; done) | (simp; omega)
      have o9_r : ObjAt w9 (w.heap.size) 24 [.int .i64 e, .int .i64 k, .int .i64 o] := ObjAt.below (H8_r.out) hb9
      have o9_want : ObjAt w9 (w.heap.size + 1) 24 [.int .i64 0, .int .i64 0, .int .i64 0] := ObjAt.below (H8_want.out) hb9
      have o9_x : ObjAt w9 (w2.heap.size) 24 [.int .i64 0, .int .i64 0, .int .i64 0] := ObjAt.below (H8_x.out) hb9
      clear q8_r_0 q8_r_1 q8_r_2 H8_r q8_want_0 f8_want_0 q8_want_1 f8_want_1 q8_want_2 f8_want_2 H8_want q8_x_0 f8_x_0 q8_x_1 f8_x_1 q8_x_2 f8_x_2 H8_x
      have q9_r_0 := o9_r.cell (i := 0) rfl
      have q9_r_1 := o9_r.cell (i := 1) rfl
      have q9_r_2 := o9_r.cell (i := 2) rfl
      have l9_r := o9_r.lt
      have H9_r := hide o9_r
      clear o9_r
      have q9_want_0 := o9_want.cell (i := 0) rfl
      have f9_want_0 := o9_want.free 0
      have q9_want_1 := o9_want.cell (i := 1) rfl
      have f9_want_1 := o9_want.free 1
      have q9_want_2 := o9_want.cell (i := 2) rfl
      have f9_want_2 := o9_want.free 2
      have l9_want := o9_want.lt
      have H9_want := hide o9_want
      clear o9_want
      have q9_x_0 := o9_x.cell (i := 0) rfl
      have f9_x_0 := o9_x.free 0
      have q9_x_1 := o9_x.cell (i := 1) rfl
      have f9_x_1 := o9_x.free 1
      have q9_x_2 := o9_x.cell (i := 2) rfl
      have f9_x_2 := o9_x.free 2
      have l9_x := o9_x.lt
      have H9_x := hide o9_x
      clear o9_x
      have hy9 : w.heap.size ≤ w9.heap.size := hB9.size
      clear hb9
      go_wp2_with fail
      refine (error_any c c _ (hE.below (B := w.heap.size) (by go_grown) hE.pos)).mono ?_
      rintro e w10 ⟨rfl, hb10⟩
      have hB10 : Below w.heap.size w w10 := by
        refine Below.trans ?_ (Below.mono hb10 ?_)
        · go_grown
        · first | omega | (simp; done) | (simp; omega)
      have o10_r : ObjAt w10 (w.heap.size) 24 [.int .i64 e, .int .i64 k, .int .i64 o] := ObjAt.below (H9_r.out) hb10
      have o10_want : ObjAt w10 (w.heap.size + 1) 24 [.int .i64 0, .int .i64 0, .int .i64 0] := ObjAt.below (H9_want.out) hb10
      have o10_x : ObjAt w10 (w2.heap.size) 24 [.int .i64 0, .int .i64 0, .int .i64 0] := ObjAt.below (H9_x.out) hb10
      clear q9_r_0 q9_r_1 q9_r_2 H9_r q9_want_0 f9_want_0 q9_want_1 f9_want_1 q9_want_2 f9_want_2 H9_want q9_x_0 f9_x_0 q9_x_1 f9_x_1 q9_x_2 f9_x_2 H9_x
      have q10_r_0 := o10_r.cell (i := 0) rfl
      have q10_r_1 := o10_r.cell (i := 1) rfl
      have q10_r_2 := o10_r.cell (i := 2) rfl
      have l10_r := o10_r.lt
      have H10_r := hide o10_r
      clear o10_r
      have q10_want_0 := o10_want.cell (i := 0) rfl
      have f10_want_0 := o10_want.free 0
      have q10_want_1 := o10_want.cell (i := 1) rfl
      have f10_want_1 := o10_want.free 1
      have q10_want_2 := o10_want.cell (i := 2) rfl
      have f10_want_2 := o10_want.free 2
      have l10_want := o10_want.lt
      have H10_want := hide o10_want
      clear o10_want
      have q10_x_0 := o10_x.cell (i := 0) rfl
      have f10_x_0 := o10_x.free 0
      have q10_x_1 := o10_x.cell (i := 1) rfl
      have f10_x_1 := o10_x.free 1
      have q10_x_2 := o10_x.cell (i := 2) rfl
      have f10_x_2 := o10_x.free 2
      have l10_x := o10_x.lt
      have H10_x := hide o10_x
      clear o10_x
      have hy10 : w.heap.size ≤ w10.heap.size := hB10.size
      clear hb10
      go_wp2
      go_ret
      exact ⟨rfl, by go_grown⟩
  · rw [hs] at SI
    obtain ⟨v, hv⟩ : ∃ v, v = tagOf seed [0] := ⟨_, rfl⟩
    have NW := hide (fun W => ringNew_ok hs W)
    have TG := hide (rTag1 (inB_true.1 hs) (show (0 : Int) ≤ 0 ∧ (0 : Int) < 999983 by omega))
    rw [← hv] at NW TG
    clear hs hv
    by_cases h0 : c = 0
    · subst h0
      obtain ⟨t1, t2, t3, f, hT⟩ : ∃ t1 t2 t3 f, turnN e k = (t1, t2, t3, f) := ⟨_, _, _, _, rfl⟩
      have RT := hide (fun W => rTurn hc hT W)
      have TT := hide (fun W => ringTurn hc hT W)
      have hep : ep < 0 ∨ (0 ≤ ep ∧ 100 < ep) ∨ (0 ≤ ep ∧ ep ≤ 100) := by omega
      obtain ⟨⟨he0, he1⟩, _, _, _⟩ := ringE_ok hc
      have RC' : Hid (∀ W, Calls Tryd.prog 47 #[.agg #[.int .i64 e, .int .i64 k, .int .i64 o]] W fun r w' => r = .returned .nilIface ∧ Below W.heap.size W w') := RC
      rcases hep with h | ⟨h1, h2⟩ | ⟨h1, h2⟩
      · have KK : Hid (∀ W, Calls Tryd.prog 37 #[.agg #[.int .i64 e, .int .i64 k, .int .i64 o], .int .i64 ep] W fun r w' => r = .returned (.tuple #[.int .i64 0, .iface 107 (.int .i64 1)]) ∧ Below W.heap.size W w') := hide (fun W => ringKey (c := 1) (by unfold ringKeyN; rw [if_neg (by simp [hc]), if_neg (by rw [epB_false.2 (by omega)]; simp)]) W)
        clear hT RC hc
        go_enter Tryd.func11, Tryd.ntmps11
        go_wp2_with fail
        refine (SI.out _).mono ?_
        rintro e w501 ⟨rfl, rfl⟩
        go_wp2_with fail
        refine (TG.out _ _ (objNew (by simp))).mono ?_
        rintro e w502 ⟨rfl, rfl⟩
        go_wp2_with fail
        refine (NW.out _).mono ?_
        rintro e w3 ⟨rfl, hb3⟩
        have hB3 : Below w.heap.size w w3 := by
          refine Below.trans ?_ (Below.mono hb3 ?_)
          · go_grown
          · first | omega | (simp; done) | (simp; omega)
        have o3_r : ObjAt w3 (w.heap.size) 24 [.int .i64 e, .int .i64 k, .int .i64 o] := ObjAt.below (ObjAt.alloc (ObjAt.alloc (objNew (by simp)) _) _) hb3
        have o3_want : ObjAt w3 (w.heap.size + 1) 24 [.int .i64 0, .int .i64 v, .int .i64 0] := ObjAt.below (ObjAt.alloc (objNew (by simp)) _) hb3
        have q3_r_0 := o3_r.cell (i := 0) rfl
        have q3_r_1 := o3_r.cell (i := 1) rfl
        have q3_r_2 := o3_r.cell (i := 2) rfl
        have l3_r := o3_r.lt
        have H3_r := hide o3_r
        clear o3_r
        have q3_want_0 := o3_want.cell (i := 0) rfl
        have f3_want_0 := o3_want.free 0
        have q3_want_1 := o3_want.cell (i := 1) rfl
        have f3_want_1 := o3_want.free 1
        have q3_want_2 := o3_want.cell (i := 2) rfl
        have f3_want_2 := o3_want.free 2
        have l3_want := o3_want.lt
        have H3_want := hide o3_want
        clear o3_want
        have hy3 : w.heap.size ≤ w3.heap.size := hB3.size
        clear hb3
        go_wp2_with fail
        refine (error_any 0 0 _ (hE.below (B := w.heap.size) (by go_grown) hE.pos)).mono ?_
        rintro e w4 ⟨rfl, hb4⟩
        have hB4 : Below w.heap.size w w4 := by
          refine Below.trans ?_ (Below.mono hb4 ?_)
          · go_grown
          · first | omega | (simp; done) | (simp; omega)
        have o4_r : ObjAt w4 (w.heap.size) 24 [.int .i64 e, .int .i64 k, .int .i64 o] := ObjAt.below (ObjAt.alloc (H3_r.out) _) hb4
        have o4_want : ObjAt w4 (w.heap.size + 1) 24 [.int .i64 0, .int .i64 v, .int .i64 0] := ObjAt.below (ObjAt.alloc (H3_want.out) _) hb4
        have o4_x : ObjAt w4 (w3.heap.size) 24 [.int .i64 0, .int .i64 v, .int .i64 0] := ObjAt.below (objNew (by simp)) hb4
        clear q3_r_0 q3_r_1 q3_r_2 H3_r q3_want_0 f3_want_0 q3_want_1 f3_want_1 q3_want_2 f3_want_2 H3_want
        have q4_r_0 := o4_r.cell (i := 0) rfl
        have q4_r_1 := o4_r.cell (i := 1) rfl
        have q4_r_2 := o4_r.cell (i := 2) rfl
        have l4_r := o4_r.lt
        have H4_r := hide o4_r
        clear o4_r
        have q4_want_0 := o4_want.cell (i := 0) rfl
        have f4_want_0 := o4_want.free 0
        have q4_want_1 := o4_want.cell (i := 1) rfl
        have f4_want_1 := o4_want.free 1
        have q4_want_2 := o4_want.cell (i := 2) rfl
        have f4_want_2 := o4_want.free 2
        have l4_want := o4_want.lt
        have H4_want := hide o4_want
        clear o4_want
        have q4_x_0 := o4_x.cell (i := 0) rfl
        have f4_x_0 := o4_x.free 0
        have q4_x_1 := o4_x.cell (i := 1) rfl
        have f4_x_1 := o4_x.free 1
        have q4_x_2 := o4_x.cell (i := 2) rfl
        have f4_x_2 := o4_x.free 2
        have l4_x := o4_x.lt
        have H4_x := hide o4_x
        clear o4_x
        have hy4 : w.heap.size ≤ w4.heap.size := hB4.size
        clear hb4
        go_wp2_with fail
        refine (RR.out _).mono ?_
        rintro e w5 ⟨rfl, hb5⟩
        have hB5 : Below w.heap.size w w5 := by
          refine Below.trans ?_ (Below.mono hb5 ?_)
          · go_grown
          · first | omega | (simp; done) | (simp; omega)
        have o5_r : ObjAt w5 (w.heap.size) 24 [.int .i64 e, .int .i64 k, .int .i64 o] := ObjAt.below (H4_r.out) hb5
        have o5_want : ObjAt w5 (w.heap.size + 1) 24 [.int .i64 0, .int .i64 v, .int .i64 0] := ObjAt.below (H4_want.out) hb5
        have o5_x : ObjAt w5 (w3.heap.size) 24 [.int .i64 0, .int .i64 v, .int .i64 0] := ObjAt.below (H4_x.out) hb5
        clear q4_r_0 q4_r_1 q4_r_2 H4_r q4_want_0 f4_want_0 q4_want_1 f4_want_1 q4_want_2 f4_want_2 H4_want q4_x_0 f4_x_0 q4_x_1 f4_x_1 q4_x_2 f4_x_2 H4_x
        have q5_r_0 := o5_r.cell (i := 0) rfl
        have q5_r_1 := o5_r.cell (i := 1) rfl
        have q5_r_2 := o5_r.cell (i := 2) rfl
        have l5_r := o5_r.lt
        have H5_r := hide o5_r
        clear o5_r
        have q5_want_0 := o5_want.cell (i := 0) rfl
        have f5_want_0 := o5_want.free 0
        have q5_want_1 := o5_want.cell (i := 1) rfl
        have f5_want_1 := o5_want.free 1
        have q5_want_2 := o5_want.cell (i := 2) rfl
        have f5_want_2 := o5_want.free 2
        have l5_want := o5_want.lt
        have H5_want := hide o5_want
        clear o5_want
        have q5_x_0 := o5_x.cell (i := 0) rfl
        have f5_x_0 := o5_x.free 0
        have q5_x_1 := o5_x.cell (i := 1) rfl
        have f5_x_1 := o5_x.free 1
        have q5_x_2 := o5_x.cell (i := 2) rfl
        have f5_x_2 := o5_x.free 2
        have l5_x := o5_x.lt
        have H5_x := hide o5_x
        clear o5_x
        have hy5 : w.heap.size ≤ w5.heap.size := hB5.size
        clear hb5
        go_wp2_with fail
        refine (RC'.out _).mono ?_
        rintro e w6 ⟨rfl, hb6⟩
        have hB6 : Below w.heap.size w w6 := by
          refine Below.trans ?_ (Below.mono hb6 ?_)
          · go_grown
          · first | omega | (simp; done) | (simp; omega)
        have o6_r : ObjAt w6 (w.heap.size) 24 [.int .i64 e, .int .i64 k, .int .i64 o] := ObjAt.below (H5_r.out) hb6
        have o6_want : ObjAt w6 (w.heap.size + 1) 24 [.int .i64 0, .int .i64 v, .int .i64 0] := ObjAt.below (H5_want.out) hb6
        have o6_x : ObjAt w6 (w3.heap.size) 24 [.int .i64 0, .int .i64 v, .int .i64 0] := ObjAt.below (H5_x.out) hb6
        clear q5_r_0 q5_r_1 q5_r_2 H5_r q5_want_0 f5_want_0 q5_want_1 f5_want_1 q5_want_2 f5_want_2 H5_want q5_x_0 f5_x_0 q5_x_1 f5_x_1 q5_x_2 f5_x_2 H5_x
        have q6_r_0 := o6_r.cell (i := 0) rfl
        have q6_r_1 := o6_r.cell (i := 1) rfl
        have q6_r_2 := o6_r.cell (i := 2) rfl
        have l6_r := o6_r.lt
        have H6_r := hide o6_r
        clear o6_r
        have q6_want_0 := o6_want.cell (i := 0) rfl
        have f6_want_0 := o6_want.free 0
        have q6_want_1 := o6_want.cell (i := 1) rfl
        have f6_want_1 := o6_want.free 1
        have q6_want_2 := o6_want.cell (i := 2) rfl
        have f6_want_2 := o6_want.free 2
        have l6_want := o6_want.lt
        have H6_want := hide o6_want
        clear o6_want
        have q6_x_0 := o6_x.cell (i := 0) rfl
        have f6_x_0 := o6_x.free 0
        have q6_x_1 := o6_x.cell (i := 1) rfl
        have f6_x_1 := o6_x.free 1
        have q6_x_2 := o6_x.cell (i := 2) rfl
        have f6_x_2 := o6_x.free 2
        have l6_x := o6_x.lt
        have H6_x := hide o6_x
        clear o6_x
        have hy6 : w.heap.size ≤ w6.heap.size := hB6.size
        clear hb6
        go_wp2_with fail
        refine (error_any 0 0 _ (hE.below (B := w.heap.size) (by go_grown) hE.pos)).mono ?_
        rintro e w7 ⟨rfl, hb7⟩
        have hB7 : Below w.heap.size w w7 := by
          refine Below.trans ?_ (Below.mono hb7 ?_)
          · go_grown
          · first | omega | (simp; done) | (simp; omega)
        have o7_r : ObjAt w7 (w.heap.size) 24 [.int .i64 e, .int .i64 k, .int .i64 o] := ObjAt.below (H6_r.out) hb7
        have o7_want : ObjAt w7 (w.heap.size + 1) 24 [.int .i64 0, .int .i64 v, .int .i64 0] := ObjAt.below (H6_want.out) hb7
        have o7_x : ObjAt w7 (w3.heap.size) 24 [.int .i64 0, .int .i64 v, .int .i64 0] := ObjAt.below (H6_x.out) hb7
        clear q6_r_0 q6_r_1 q6_r_2 H6_r q6_want_0 f6_want_0 q6_want_1 f6_want_1 q6_want_2 f6_want_2 H6_want q6_x_0 f6_x_0 q6_x_1 f6_x_1 q6_x_2 f6_x_2 H6_x
        have q7_r_0 := o7_r.cell (i := 0) rfl
        have q7_r_1 := o7_r.cell (i := 1) rfl
        have q7_r_2 := o7_r.cell (i := 2) rfl
        have l7_r := o7_r.lt
        have H7_r := hide o7_r
        clear o7_r
        have q7_want_0 := o7_want.cell (i := 0) rfl
        have f7_want_0 := o7_want.free 0
        have q7_want_1 := o7_want.cell (i := 1) rfl
        have f7_want_1 := o7_want.free 1
        have q7_want_2 := o7_want.cell (i := 2) rfl
        have f7_want_2 := o7_want.free 2
        have l7_want := o7_want.lt
        have H7_want := hide o7_want
        clear o7_want
        have q7_x_0 := o7_x.cell (i := 0) rfl
        have f7_x_0 := o7_x.free 0
        have q7_x_1 := o7_x.cell (i := 1) rfl
        have f7_x_1 := o7_x.free 1
        have q7_x_2 := o7_x.cell (i := 2) rfl
        have f7_x_2 := o7_x.free 2
        have l7_x := o7_x.lt
        have H7_x := hide o7_x
        clear o7_x
        have hy7 : w.heap.size ≤ w7.heap.size := hB7.size
        clear hb7
        go_wp2_with fail
        refine (RT.out _).mono ?_
        rintro e w8 ⟨rfl, hb8⟩
        have hB8 : Below w.heap.size w w8 := by
          refine Below.trans ?_ (Below.mono hb8 ?_)
          · go_grown
          · first | omega | (simp; done) | (simp; omega)
        have o8_r : ObjAt w8 (w.heap.size) 24 [.int .i64 e, .int .i64 k, .int .i64 o] := ObjAt.below (ObjAt.other3 (H7_r.out) (by omega)) hb8
        have o8_want : ObjAt w8 (w.heap.size + 1) 24 [.int .i64 0, .int .i64 0, .int .i64 0] := ObjAt.below (ObjAt.set3 (H7_want.out)) hb8
        have o8_x : ObjAt w8 (w3.heap.size) 24 [.int .i64 0, .int .i64 v, .int .i64 0] := ObjAt.below (ObjAt.other3 (H7_x.out) (by omega)) hb8
        clear q7_r_0 q7_r_1 q7_r_2 H7_r q7_want_0 f7_want_0 q7_want_1 f7_want_1 q7_want_2 f7_want_2 H7_want q7_x_0 f7_x_0 q7_x_1 f7_x_1 q7_x_2 f7_x_2 H7_x
        have q8_r_0 := o8_r.cell (i := 0) rfl
        have q8_r_1 := o8_r.cell (i := 1) rfl
        have q8_r_2 := o8_r.cell (i := 2) rfl
        have l8_r := o8_r.lt
        have H8_r := hide o8_r
        clear o8_r
        have q8_want_0 := o8_want.cell (i := 0) rfl
        have f8_want_0 := o8_want.free 0
        have q8_want_1 := o8_want.cell (i := 1) rfl
        have f8_want_1 := o8_want.free 1
        have q8_want_2 := o8_want.cell (i := 2) rfl
        have f8_want_2 := o8_want.free 2
        have l8_want := o8_want.lt
        have H8_want := hide o8_want
        clear o8_want
        have q8_x_0 := o8_x.cell (i := 0) rfl
        have f8_x_0 := o8_x.free 0
        have q8_x_1 := o8_x.cell (i := 1) rfl
        have f8_x_1 := o8_x.free 1
        have q8_x_2 := o8_x.cell (i := 2) rfl
        have f8_x_2 := o8_x.free 2
        have l8_x := o8_x.lt
        have H8_x := hide o8_x
        clear o8_x
        have hy8 : w.heap.size ≤ w8.heap.size := hB8.size
        clear hb8
        go_wp2_with fail
        refine (TT.out _).mono ?_
        rintro e w9 ⟨rfl, hb9⟩
        have hB9 : Below w.heap.size w w9 := by
          refine Below.trans ?_ (Below.mono hb9 ?_)
          · go_grown
          · first | omega | (simp; done) | (simp; omega)
        have o9_r : ObjAt w9 (w.heap.size) 24 [.int .i64 e, .int .i64 k, .int .i64 o] := ObjAt.below (ObjAt.other3 (H8_r.out) (by omega)) hb9
        have o9_want : ObjAt w9 (w.heap.size + 1) 24 [.int .i64 t1, .int .i64 t2, .int .i64 t3] := ObjAt.below (ObjAt.set3 (H8_want.out)) hb9
        have o9_x : ObjAt w9 (w3.heap.size) 24 [.int .i64 0, .int .i64 v, .int .i64 0] := ObjAt.below (ObjAt.other3 (H8_x.out) (by omega)) hb9
        clear q8_r_0 q8_r_1 q8_r_2 H8_r q8_want_0 f8_want_0 q8_want_1 f8_want_1 q8_want_2 f8_want_2 H8_want q8_x_0 f8_x_0 q8_x_1 f8_x_1 q8_x_2 f8_x_2 H8_x
        have q9_r_0 := o9_r.cell (i := 0) rfl
        have q9_r_1 := o9_r.cell (i := 1) rfl
        have q9_r_2 := o9_r.cell (i := 2) rfl
        have l9_r := o9_r.lt
        have H9_r := hide o9_r
        clear o9_r
        have q9_want_0 := o9_want.cell (i := 0) rfl
        have f9_want_0 := o9_want.free 0
        have q9_want_1 := o9_want.cell (i := 1) rfl
        have f9_want_1 := o9_want.free 1
        have q9_want_2 := o9_want.cell (i := 2) rfl
        have f9_want_2 := o9_want.free 2
        have l9_want := o9_want.lt
        have H9_want := hide o9_want
        clear o9_want
        have q9_x_0 := o9_x.cell (i := 0) rfl
        have f9_x_0 := o9_x.free 0
        have q9_x_1 := o9_x.cell (i := 1) rfl
        have f9_x_1 := o9_x.free 1
        have q9_x_2 := o9_x.cell (i := 2) rfl
        have f9_x_2 := o9_x.free 2
        have l9_x := o9_x.lt
        have H9_x := hide o9_x
        clear o9_x
        have hy9 : w.heap.size ≤ w9.heap.size := hB9.size
        clear hb9
        go_wp2_with fail
        refine (error_any f f _ (hE.below (B := w.heap.size) (by go_grown) hE.pos)).mono ?_
        rintro e w10 ⟨rfl, hb10⟩
        have hB10 : Below w.heap.size w w10 := by
          refine Below.trans ?_ (Below.mono hb10 ?_)
          · go_grown
          · first | omega | (simp; done) | (simp; omega)
        have o10_r : ObjAt w10 (w.heap.size) 24 [.int .i64 e, .int .i64 k, .int .i64 o] := ObjAt.below (ObjAt.other3 (H9_r.out) (by omega)) hb10
        have o10_want : ObjAt w10 (w.heap.size + 1) 24 [.int .i64 t1, .int .i64 t2, .int .i64 t3] := ObjAt.below (ObjAt.other3 (H9_want.out) (by omega)) hb10
        have o10_x : ObjAt w10 (w3.heap.size) 24 [.int .i64 t1, .int .i64 t2, .int .i64 t3] := ObjAt.below (ObjAt.set3 (H9_x.out)) hb10
        clear q9_r_0 q9_r_1 q9_r_2 H9_r q9_want_0 f9_want_0 q9_want_1 f9_want_1 q9_want_2 f9_want_2 H9_want q9_x_0 f9_x_0 q9_x_1 f9_x_1 q9_x_2 f9_x_2 H9_x
        have q10_r_0 := o10_r.cell (i := 0) rfl
        have q10_r_1 := o10_r.cell (i := 1) rfl
        have q10_r_2 := o10_r.cell (i := 2) rfl
        have l10_r := o10_r.lt
        have H10_r := hide o10_r
        clear o10_r
        have q10_want_0 := o10_want.cell (i := 0) rfl
        have f10_want_0 := o10_want.free 0
        have q10_want_1 := o10_want.cell (i := 1) rfl
        have f10_want_1 := o10_want.free 1
        have q10_want_2 := o10_want.cell (i := 2) rfl
        have f10_want_2 := o10_want.free 2
        have l10_want := o10_want.lt
        have H10_want := hide o10_want
        clear o10_want
        have q10_x_0 := o10_x.cell (i := 0) rfl
        have f10_x_0 := o10_x.free 0
        have q10_x_1 := o10_x.cell (i := 1) rfl
        have f10_x_1 := o10_x.free 1
        have q10_x_2 := o10_x.cell (i := 2) rfl
        have f10_x_2 := o10_x.free 2
        have l10_x := o10_x.lt
        have H10_x := hide o10_x
        clear o10_x
        have hy10 : w.heap.size ≤ w10.heap.size := hB10.size
        clear hb10
        go_wp2_with fail
        refine (KK.out _).mono ?_
        rintro e w11 ⟨rfl, hb11⟩
        have hB11 : Below w.heap.size w w11 := by
          refine Below.trans ?_ (Below.mono hb11 ?_)
          · go_grown
          · first | omega | (simp; done) | (simp; omega)
        have o11_r : ObjAt w11 (w.heap.size) 24 [.int .i64 e, .int .i64 k, .int .i64 o] := ObjAt.below (H10_r.out) hb11
        have o11_want : ObjAt w11 (w.heap.size + 1) 24 [.int .i64 t1, .int .i64 t2, .int .i64 t3] := ObjAt.below (H10_want.out) hb11
        have o11_x : ObjAt w11 (w3.heap.size) 24 [.int .i64 t1, .int .i64 t2, .int .i64 t3] := ObjAt.below (H10_x.out) hb11
        clear q10_r_0 q10_r_1 q10_r_2 H10_r q10_want_0 f10_want_0 q10_want_1 f10_want_1 q10_want_2 f10_want_2 H10_want q10_x_0 f10_x_0 q10_x_1 f10_x_1 q10_x_2 f10_x_2 H10_x
        have q11_r_0 := o11_r.cell (i := 0) rfl
        have q11_r_1 := o11_r.cell (i := 1) rfl
        have q11_r_2 := o11_r.cell (i := 2) rfl
        have l11_r := o11_r.lt
        have H11_r := hide o11_r
        clear o11_r
        have q11_want_0 := o11_want.cell (i := 0) rfl
        have f11_want_0 := o11_want.free 0
        have q11_want_1 := o11_want.cell (i := 1) rfl
        have f11_want_1 := o11_want.free 1
        have q11_want_2 := o11_want.cell (i := 2) rfl
        have f11_want_2 := o11_want.free 2
        have l11_want := o11_want.lt
        have H11_want := hide o11_want
        clear o11_want
        have q11_x_0 := o11_x.cell (i := 0) rfl
        have f11_x_0 := o11_x.free 0
        have q11_x_1 := o11_x.cell (i := 1) rfl
        have f11_x_1 := o11_x.free 1
        have q11_x_2 := o11_x.cell (i := 2) rfl
        have f11_x_2 := o11_x.free 2
        have l11_x := o11_x.lt
        have H11_x := hide o11_x
        clear o11_x
        have hy11 : w.heap.size ≤ w11.heap.size := hB11.size
        clear hb11
        go_wp2_with fail
        refine (error_any 1 1 _ (hE.below (B := w.heap.size) (by go_grown) hE.pos)).mono ?_
        rintro e w12 ⟨rfl, hb12⟩
        have hB12 : Below w.heap.size w w12 := by
          refine Below.trans ?_ (Below.mono hb12 ?_)
          · go_grown
          · first | omega | (simp; done) | (simp; omega)
        have o12_r : ObjAt w12 (w.heap.size) 24 [.int .i64 e, .int .i64 k, .int .i64 o] := ObjAt.below (H11_r.out) hb12
        have o12_want : ObjAt w12 (w.heap.size + 1) 24 [.int .i64 t1, .int .i64 t2, .int .i64 t3] := ObjAt.below (H11_want.out) hb12
        have o12_x : ObjAt w12 (w3.heap.size) 24 [.int .i64 t1, .int .i64 t2, .int .i64 t3] := ObjAt.below (H11_x.out) hb12
        clear q11_r_0 q11_r_1 q11_r_2 H11_r q11_want_0 f11_want_0 q11_want_1 f11_want_1 q11_want_2 f11_want_2 H11_want q11_x_0 f11_x_0 q11_x_1 f11_x_1 q11_x_2 f11_x_2 H11_x
        have q12_r_0 := o12_r.cell (i := 0) rfl
        have q12_r_1 := o12_r.cell (i := 1) rfl
        have q12_r_2 := o12_r.cell (i := 2) rfl
        have l12_r := o12_r.lt
        have H12_r := hide o12_r
        clear o12_r
        have q12_want_0 := o12_want.cell (i := 0) rfl
        have f12_want_0 := o12_want.free 0
        have q12_want_1 := o12_want.cell (i := 1) rfl
        have f12_want_1 := o12_want.free 1
        have q12_want_2 := o12_want.cell (i := 2) rfl
        have f12_want_2 := o12_want.free 2
        have l12_want := o12_want.lt
        have H12_want := hide o12_want
        clear o12_want
        have q12_x_0 := o12_x.cell (i := 0) rfl
        have f12_x_0 := o12_x.free 0
        have q12_x_1 := o12_x.cell (i := 1) rfl
        have f12_x_1 := o12_x.free 1
        have q12_x_2 := o12_x.cell (i := 2) rfl
        have f12_x_2 := o12_x.free 2
        have l12_x := o12_x.lt
        have H12_x := hide o12_x
        clear o12_x
        have hy12 : w.heap.size ≤ w12.heap.size := hB12.size
        clear hb12
        go_wp2
        go_ret
        exact ⟨rfl, by go_grown⟩
      · have KK : Hid (∀ W, Calls Tryd.prog 37 #[.agg #[.int .i64 e, .int .i64 k, .int .i64 o], .int .i64 ep] W fun r w' => r = .returned (.tuple #[.int .i64 0, .iface 107 (.int .i64 1)]) ∧ Below W.heap.size W w') := hide (fun W => ringKey (c := 1) (by unfold ringKeyN; rw [if_neg (by simp [hc]), if_neg (by rw [epB_false.2 (by omega)]; simp)]) W)
        clear hT RC hc
        go_enter Tryd.func11, Tryd.ntmps11
        go_wp2_with fail
        refine (SI.out _).mono ?_
        rintro e w501 ⟨rfl, rfl⟩
        go_wp2_with fail
        refine (TG.out _ _ (objNew (by simp))).mono ?_
        rintro e w502 ⟨rfl, rfl⟩
        go_wp2_with fail
        refine (NW.out _).mono ?_
        rintro e w3 ⟨rfl, hb3⟩
        have hB3 : Below w.heap.size w w3 := by
          refine Below.trans ?_ (Below.mono hb3 ?_)
          · go_grown
          · first | omega | (simp; done) | (simp; omega)
        have o3_r : ObjAt w3 (w.heap.size) 24 [.int .i64 e, .int .i64 k, .int .i64 o] := ObjAt.below (ObjAt.alloc (ObjAt.alloc (objNew (by simp)) _) _) hb3
        have o3_want : ObjAt w3 (w.heap.size + 1) 24 [.int .i64 0, .int .i64 v, .int .i64 0] := ObjAt.below (ObjAt.alloc (objNew (by simp)) _) hb3
        have q3_r_0 := o3_r.cell (i := 0) rfl
        have q3_r_1 := o3_r.cell (i := 1) rfl
        have q3_r_2 := o3_r.cell (i := 2) rfl
        have l3_r := o3_r.lt
        have H3_r := hide o3_r
        clear o3_r
        have q3_want_0 := o3_want.cell (i := 0) rfl
        have f3_want_0 := o3_want.free 0
        have q3_want_1 := o3_want.cell (i := 1) rfl
        have f3_want_1 := o3_want.free 1
        have q3_want_2 := o3_want.cell (i := 2) rfl
        have f3_want_2 := o3_want.free 2
        have l3_want := o3_want.lt
        have H3_want := hide o3_want
        clear o3_want
        have hy3 : w.heap.size ≤ w3.heap.size := hB3.size
        clear hb3
        go_wp2_with fail
        refine (error_any 0 0 _ (hE.below (B := w.heap.size) (by go_grown) hE.pos)).mono ?_
        rintro e w4 ⟨rfl, hb4⟩
        have hB4 : Below w.heap.size w w4 := by
          refine Below.trans ?_ (Below.mono hb4 ?_)
          · go_grown
          · first | omega | (simp; done) | (simp; omega)
        have o4_r : ObjAt w4 (w.heap.size) 24 [.int .i64 e, .int .i64 k, .int .i64 o] := ObjAt.below (ObjAt.alloc (H3_r.out) _) hb4
        have o4_want : ObjAt w4 (w.heap.size + 1) 24 [.int .i64 0, .int .i64 v, .int .i64 0] := ObjAt.below (ObjAt.alloc (H3_want.out) _) hb4
        have o4_x : ObjAt w4 (w3.heap.size) 24 [.int .i64 0, .int .i64 v, .int .i64 0] := ObjAt.below (objNew (by simp)) hb4
        clear q3_r_0 q3_r_1 q3_r_2 H3_r q3_want_0 f3_want_0 q3_want_1 f3_want_1 q3_want_2 f3_want_2 H3_want
        have q4_r_0 := o4_r.cell (i := 0) rfl
        have q4_r_1 := o4_r.cell (i := 1) rfl
        have q4_r_2 := o4_r.cell (i := 2) rfl
        have l4_r := o4_r.lt
        have H4_r := hide o4_r
        clear o4_r
        have q4_want_0 := o4_want.cell (i := 0) rfl
        have f4_want_0 := o4_want.free 0
        have q4_want_1 := o4_want.cell (i := 1) rfl
        have f4_want_1 := o4_want.free 1
        have q4_want_2 := o4_want.cell (i := 2) rfl
        have f4_want_2 := o4_want.free 2
        have l4_want := o4_want.lt
        have H4_want := hide o4_want
        clear o4_want
        have q4_x_0 := o4_x.cell (i := 0) rfl
        have f4_x_0 := o4_x.free 0
        have q4_x_1 := o4_x.cell (i := 1) rfl
        have f4_x_1 := o4_x.free 1
        have q4_x_2 := o4_x.cell (i := 2) rfl
        have f4_x_2 := o4_x.free 2
        have l4_x := o4_x.lt
        have H4_x := hide o4_x
        clear o4_x
        have hy4 : w.heap.size ≤ w4.heap.size := hB4.size
        clear hb4
        go_wp2_with fail
        refine (RR.out _).mono ?_
        rintro e w5 ⟨rfl, hb5⟩
        have hB5 : Below w.heap.size w w5 := by
          refine Below.trans ?_ (Below.mono hb5 ?_)
          · go_grown
          · first | omega | (simp; done) | (simp; omega)
        have o5_r : ObjAt w5 (w.heap.size) 24 [.int .i64 e, .int .i64 k, .int .i64 o] := ObjAt.below (H4_r.out) hb5
        have o5_want : ObjAt w5 (w.heap.size + 1) 24 [.int .i64 0, .int .i64 v, .int .i64 0] := ObjAt.below (H4_want.out) hb5
        have o5_x : ObjAt w5 (w3.heap.size) 24 [.int .i64 0, .int .i64 v, .int .i64 0] := ObjAt.below (H4_x.out) hb5
        clear q4_r_0 q4_r_1 q4_r_2 H4_r q4_want_0 f4_want_0 q4_want_1 f4_want_1 q4_want_2 f4_want_2 H4_want q4_x_0 f4_x_0 q4_x_1 f4_x_1 q4_x_2 f4_x_2 H4_x
        have q5_r_0 := o5_r.cell (i := 0) rfl
        have q5_r_1 := o5_r.cell (i := 1) rfl
        have q5_r_2 := o5_r.cell (i := 2) rfl
        have l5_r := o5_r.lt
        have H5_r := hide o5_r
        clear o5_r
        have q5_want_0 := o5_want.cell (i := 0) rfl
        have f5_want_0 := o5_want.free 0
        have q5_want_1 := o5_want.cell (i := 1) rfl
        have f5_want_1 := o5_want.free 1
        have q5_want_2 := o5_want.cell (i := 2) rfl
        have f5_want_2 := o5_want.free 2
        have l5_want := o5_want.lt
        have H5_want := hide o5_want
        clear o5_want
        have q5_x_0 := o5_x.cell (i := 0) rfl
        have f5_x_0 := o5_x.free 0
        have q5_x_1 := o5_x.cell (i := 1) rfl
        have f5_x_1 := o5_x.free 1
        have q5_x_2 := o5_x.cell (i := 2) rfl
        have f5_x_2 := o5_x.free 2
        have l5_x := o5_x.lt
        have H5_x := hide o5_x
        clear o5_x
        have hy5 : w.heap.size ≤ w5.heap.size := hB5.size
        clear hb5
        go_wp2_with fail
        refine (RC'.out _).mono ?_
        rintro e w6 ⟨rfl, hb6⟩
        have hB6 : Below w.heap.size w w6 := by
          refine Below.trans ?_ (Below.mono hb6 ?_)
          · go_grown
          · first | omega | (simp; done) | (simp; omega)
        have o6_r : ObjAt w6 (w.heap.size) 24 [.int .i64 e, .int .i64 k, .int .i64 o] := ObjAt.below (H5_r.out) hb6
        have o6_want : ObjAt w6 (w.heap.size + 1) 24 [.int .i64 0, .int .i64 v, .int .i64 0] := ObjAt.below (H5_want.out) hb6
        have o6_x : ObjAt w6 (w3.heap.size) 24 [.int .i64 0, .int .i64 v, .int .i64 0] := ObjAt.below (H5_x.out) hb6
        clear q5_r_0 q5_r_1 q5_r_2 H5_r q5_want_0 f5_want_0 q5_want_1 f5_want_1 q5_want_2 f5_want_2 H5_want q5_x_0 f5_x_0 q5_x_1 f5_x_1 q5_x_2 f5_x_2 H5_x
        have q6_r_0 := o6_r.cell (i := 0) rfl
        have q6_r_1 := o6_r.cell (i := 1) rfl
        have q6_r_2 := o6_r.cell (i := 2) rfl
        have l6_r := o6_r.lt
        have H6_r := hide o6_r
        clear o6_r
        have q6_want_0 := o6_want.cell (i := 0) rfl
        have f6_want_0 := o6_want.free 0
        have q6_want_1 := o6_want.cell (i := 1) rfl
        have f6_want_1 := o6_want.free 1
        have q6_want_2 := o6_want.cell (i := 2) rfl
        have f6_want_2 := o6_want.free 2
        have l6_want := o6_want.lt
        have H6_want := hide o6_want
        clear o6_want
        have q6_x_0 := o6_x.cell (i := 0) rfl
        have f6_x_0 := o6_x.free 0
        have q6_x_1 := o6_x.cell (i := 1) rfl
        have f6_x_1 := o6_x.free 1
        have q6_x_2 := o6_x.cell (i := 2) rfl
        have f6_x_2 := o6_x.free 2
        have l6_x := o6_x.lt
        have H6_x := hide o6_x
        clear o6_x
        have hy6 : w.heap.size ≤ w6.heap.size := hB6.size
        clear hb6
        go_wp2_with fail
        refine (error_any 0 0 _ (hE.below (B := w.heap.size) (by go_grown) hE.pos)).mono ?_
        rintro e w7 ⟨rfl, hb7⟩
        have hB7 : Below w.heap.size w w7 := by
          refine Below.trans ?_ (Below.mono hb7 ?_)
          · go_grown
          · first | omega | (simp; done) | (simp; omega)
        have o7_r : ObjAt w7 (w.heap.size) 24 [.int .i64 e, .int .i64 k, .int .i64 o] := ObjAt.below (H6_r.out) hb7
        have o7_want : ObjAt w7 (w.heap.size + 1) 24 [.int .i64 0, .int .i64 v, .int .i64 0] := ObjAt.below (H6_want.out) hb7
        have o7_x : ObjAt w7 (w3.heap.size) 24 [.int .i64 0, .int .i64 v, .int .i64 0] := ObjAt.below (H6_x.out) hb7
        clear q6_r_0 q6_r_1 q6_r_2 H6_r q6_want_0 f6_want_0 q6_want_1 f6_want_1 q6_want_2 f6_want_2 H6_want q6_x_0 f6_x_0 q6_x_1 f6_x_1 q6_x_2 f6_x_2 H6_x
        have q7_r_0 := o7_r.cell (i := 0) rfl
        have q7_r_1 := o7_r.cell (i := 1) rfl
        have q7_r_2 := o7_r.cell (i := 2) rfl
        have l7_r := o7_r.lt
        have H7_r := hide o7_r
        clear o7_r
        have q7_want_0 := o7_want.cell (i := 0) rfl
        have f7_want_0 := o7_want.free 0
        have q7_want_1 := o7_want.cell (i := 1) rfl
        have f7_want_1 := o7_want.free 1
        have q7_want_2 := o7_want.cell (i := 2) rfl
        have f7_want_2 := o7_want.free 2
        have l7_want := o7_want.lt
        have H7_want := hide o7_want
        clear o7_want
        have q7_x_0 := o7_x.cell (i := 0) rfl
        have f7_x_0 := o7_x.free 0
        have q7_x_1 := o7_x.cell (i := 1) rfl
        have f7_x_1 := o7_x.free 1
        have q7_x_2 := o7_x.cell (i := 2) rfl
        have f7_x_2 := o7_x.free 2
        have l7_x := o7_x.lt
        have H7_x := hide o7_x
        clear o7_x
        have hy7 : w.heap.size ≤ w7.heap.size := hB7.size
        clear hb7
        go_wp2_with fail
        refine (RT.out _).mono ?_
        rintro e w8 ⟨rfl, hb8⟩
        have hB8 : Below w.heap.size w w8 := by
          refine Below.trans ?_ (Below.mono hb8 ?_)
          · go_grown
          · first | omega | (simp; done) | (simp; omega)
        have o8_r : ObjAt w8 (w.heap.size) 24 [.int .i64 e, .int .i64 k, .int .i64 o] := ObjAt.below (ObjAt.other3 (H7_r.out) (by omega)) hb8
        have o8_want : ObjAt w8 (w.heap.size + 1) 24 [.int .i64 0, .int .i64 0, .int .i64 0] := ObjAt.below (ObjAt.set3 (H7_want.out)) hb8
        have o8_x : ObjAt w8 (w3.heap.size) 24 [.int .i64 0, .int .i64 v, .int .i64 0] := ObjAt.below (ObjAt.other3 (H7_x.out) (by omega)) hb8
        clear q7_r_0 q7_r_1 q7_r_2 H7_r q7_want_0 f7_want_0 q7_want_1 f7_want_1 q7_want_2 f7_want_2 H7_want q7_x_0 f7_x_0 q7_x_1 f7_x_1 q7_x_2 f7_x_2 H7_x
        have q8_r_0 := o8_r.cell (i := 0) rfl
        have q8_r_1 := o8_r.cell (i := 1) rfl
        have q8_r_2 := o8_r.cell (i := 2) rfl
        have l8_r := o8_r.lt
        have H8_r := hide o8_r
        clear o8_r
        have q8_want_0 := o8_want.cell (i := 0) rfl
        have f8_want_0 := o8_want.free 0
        have q8_want_1 := o8_want.cell (i := 1) rfl
        have f8_want_1 := o8_want.free 1
        have q8_want_2 := o8_want.cell (i := 2) rfl
        have f8_want_2 := o8_want.free 2
        have l8_want := o8_want.lt
        have H8_want := hide o8_want
        clear o8_want
        have q8_x_0 := o8_x.cell (i := 0) rfl
        have f8_x_0 := o8_x.free 0
        have q8_x_1 := o8_x.cell (i := 1) rfl
        have f8_x_1 := o8_x.free 1
        have q8_x_2 := o8_x.cell (i := 2) rfl
        have f8_x_2 := o8_x.free 2
        have l8_x := o8_x.lt
        have H8_x := hide o8_x
        clear o8_x
        have hy8 : w.heap.size ≤ w8.heap.size := hB8.size
        clear hb8
        go_wp2_with fail
        refine (TT.out _).mono ?_
        rintro e w9 ⟨rfl, hb9⟩
        have hB9 : Below w.heap.size w w9 := by
          refine Below.trans ?_ (Below.mono hb9 ?_)
          · go_grown
          · first | omega | (simp; done) | (simp; omega)
        have o9_r : ObjAt w9 (w.heap.size) 24 [.int .i64 e, .int .i64 k, .int .i64 o] := ObjAt.below (ObjAt.other3 (H8_r.out) (by omega)) hb9
        have o9_want : ObjAt w9 (w.heap.size + 1) 24 [.int .i64 t1, .int .i64 t2, .int .i64 t3] := ObjAt.below (ObjAt.set3 (H8_want.out)) hb9
        have o9_x : ObjAt w9 (w3.heap.size) 24 [.int .i64 0, .int .i64 v, .int .i64 0] := ObjAt.below (ObjAt.other3 (H8_x.out) (by omega)) hb9
        clear q8_r_0 q8_r_1 q8_r_2 H8_r q8_want_0 f8_want_0 q8_want_1 f8_want_1 q8_want_2 f8_want_2 H8_want q8_x_0 f8_x_0 q8_x_1 f8_x_1 q8_x_2 f8_x_2 H8_x
        have q9_r_0 := o9_r.cell (i := 0) rfl
        have q9_r_1 := o9_r.cell (i := 1) rfl
        have q9_r_2 := o9_r.cell (i := 2) rfl
        have l9_r := o9_r.lt
        have H9_r := hide o9_r
        clear o9_r
        have q9_want_0 := o9_want.cell (i := 0) rfl
        have f9_want_0 := o9_want.free 0
        have q9_want_1 := o9_want.cell (i := 1) rfl
        have f9_want_1 := o9_want.free 1
        have q9_want_2 := o9_want.cell (i := 2) rfl
        have f9_want_2 := o9_want.free 2
        have l9_want := o9_want.lt
        have H9_want := hide o9_want
        clear o9_want
        have q9_x_0 := o9_x.cell (i := 0) rfl
        have f9_x_0 := o9_x.free 0
        have q9_x_1 := o9_x.cell (i := 1) rfl
        have f9_x_1 := o9_x.free 1
        have q9_x_2 := o9_x.cell (i := 2) rfl
        have f9_x_2 := o9_x.free 2
        have l9_x := o9_x.lt
        have H9_x := hide o9_x
        clear o9_x
        have hy9 : w.heap.size ≤ w9.heap.size := hB9.size
        clear hb9
        go_wp2_with fail
        refine (error_any f f _ (hE.below (B := w.heap.size) (by go_grown) hE.pos)).mono ?_
        rintro e w10 ⟨rfl, hb10⟩
        have hB10 : Below w.heap.size w w10 := by
          refine Below.trans ?_ (Below.mono hb10 ?_)
          · go_grown
          · first | omega | (simp; done) | (simp; omega)
        have o10_r : ObjAt w10 (w.heap.size) 24 [.int .i64 e, .int .i64 k, .int .i64 o] := ObjAt.below (ObjAt.other3 (H9_r.out) (by omega)) hb10
        have o10_want : ObjAt w10 (w.heap.size + 1) 24 [.int .i64 t1, .int .i64 t2, .int .i64 t3] := ObjAt.below (ObjAt.other3 (H9_want.out) (by omega)) hb10
        have o10_x : ObjAt w10 (w3.heap.size) 24 [.int .i64 t1, .int .i64 t2, .int .i64 t3] := ObjAt.below (ObjAt.set3 (H9_x.out)) hb10
        clear q9_r_0 q9_r_1 q9_r_2 H9_r q9_want_0 f9_want_0 q9_want_1 f9_want_1 q9_want_2 f9_want_2 H9_want q9_x_0 f9_x_0 q9_x_1 f9_x_1 q9_x_2 f9_x_2 H9_x
        have q10_r_0 := o10_r.cell (i := 0) rfl
        have q10_r_1 := o10_r.cell (i := 1) rfl
        have q10_r_2 := o10_r.cell (i := 2) rfl
        have l10_r := o10_r.lt
        have H10_r := hide o10_r
        clear o10_r
        have q10_want_0 := o10_want.cell (i := 0) rfl
        have f10_want_0 := o10_want.free 0
        have q10_want_1 := o10_want.cell (i := 1) rfl
        have f10_want_1 := o10_want.free 1
        have q10_want_2 := o10_want.cell (i := 2) rfl
        have f10_want_2 := o10_want.free 2
        have l10_want := o10_want.lt
        have H10_want := hide o10_want
        clear o10_want
        have q10_x_0 := o10_x.cell (i := 0) rfl
        have f10_x_0 := o10_x.free 0
        have q10_x_1 := o10_x.cell (i := 1) rfl
        have f10_x_1 := o10_x.free 1
        have q10_x_2 := o10_x.cell (i := 2) rfl
        have f10_x_2 := o10_x.free 2
        have l10_x := o10_x.lt
        have H10_x := hide o10_x
        clear o10_x
        have hy10 : w.heap.size ≤ w10.heap.size := hB10.size
        clear hb10
        go_wp2_with fail
        refine (KK.out _).mono ?_
        rintro e w11 ⟨rfl, hb11⟩
        have hB11 : Below w.heap.size w w11 := by
          refine Below.trans ?_ (Below.mono hb11 ?_)
          · go_grown
          · first | omega | (simp; done) | (simp; omega)
        have o11_r : ObjAt w11 (w.heap.size) 24 [.int .i64 e, .int .i64 k, .int .i64 o] := ObjAt.below (H10_r.out) hb11
        have o11_want : ObjAt w11 (w.heap.size + 1) 24 [.int .i64 t1, .int .i64 t2, .int .i64 t3] := ObjAt.below (H10_want.out) hb11
        have o11_x : ObjAt w11 (w3.heap.size) 24 [.int .i64 t1, .int .i64 t2, .int .i64 t3] := ObjAt.below (H10_x.out) hb11
        clear q10_r_0 q10_r_1 q10_r_2 H10_r q10_want_0 f10_want_0 q10_want_1 f10_want_1 q10_want_2 f10_want_2 H10_want q10_x_0 f10_x_0 q10_x_1 f10_x_1 q10_x_2 f10_x_2 H10_x
        have q11_r_0 := o11_r.cell (i := 0) rfl
        have q11_r_1 := o11_r.cell (i := 1) rfl
        have q11_r_2 := o11_r.cell (i := 2) rfl
        have l11_r := o11_r.lt
        have H11_r := hide o11_r
        clear o11_r
        have q11_want_0 := o11_want.cell (i := 0) rfl
        have f11_want_0 := o11_want.free 0
        have q11_want_1 := o11_want.cell (i := 1) rfl
        have f11_want_1 := o11_want.free 1
        have q11_want_2 := o11_want.cell (i := 2) rfl
        have f11_want_2 := o11_want.free 2
        have l11_want := o11_want.lt
        have H11_want := hide o11_want
        clear o11_want
        have q11_x_0 := o11_x.cell (i := 0) rfl
        have f11_x_0 := o11_x.free 0
        have q11_x_1 := o11_x.cell (i := 1) rfl
        have f11_x_1 := o11_x.free 1
        have q11_x_2 := o11_x.cell (i := 2) rfl
        have f11_x_2 := o11_x.free 2
        have l11_x := o11_x.lt
        have H11_x := hide o11_x
        clear o11_x
        have hy11 : w.heap.size ≤ w11.heap.size := hB11.size
        clear hb11
        go_wp2_with fail
        refine (error_any 1 1 _ (hE.below (B := w.heap.size) (by go_grown) hE.pos)).mono ?_
        rintro e w12 ⟨rfl, hb12⟩
        have hB12 : Below w.heap.size w w12 := by
          refine Below.trans ?_ (Below.mono hb12 ?_)
          · go_grown
          · first | omega | (simp; done) | (simp; omega)
        have o12_r : ObjAt w12 (w.heap.size) 24 [.int .i64 e, .int .i64 k, .int .i64 o] := ObjAt.below (H11_r.out) hb12
        have o12_want : ObjAt w12 (w.heap.size + 1) 24 [.int .i64 t1, .int .i64 t2, .int .i64 t3] := ObjAt.below (H11_want.out) hb12
        have o12_x : ObjAt w12 (w3.heap.size) 24 [.int .i64 t1, .int .i64 t2, .int .i64 t3] := ObjAt.below (H11_x.out) hb12
        clear q11_r_0 q11_r_1 q11_r_2 H11_r q11_want_0 f11_want_0 q11_want_1 f11_want_1 q11_want_2 f11_want_2 H11_want q11_x_0 f11_x_0 q11_x_1 f11_x_1 q11_x_2 f11_x_2 H11_x
        have q12_r_0 := o12_r.cell (i := 0) rfl
        have q12_r_1 := o12_r.cell (i := 1) rfl
        have q12_r_2 := o12_r.cell (i := 2) rfl
        have l12_r := o12_r.lt
        have H12_r := hide o12_r
        clear o12_r
        have q12_want_0 := o12_want.cell (i := 0) rfl
        have f12_want_0 := o12_want.free 0
        have q12_want_1 := o12_want.cell (i := 1) rfl
        have f12_want_1 := o12_want.free 1
        have q12_want_2 := o12_want.cell (i := 2) rfl
        have f12_want_2 := o12_want.free 2
        have l12_want := o12_want.lt
        have H12_want := hide o12_want
        clear o12_want
        have q12_x_0 := o12_x.cell (i := 0) rfl
        have f12_x_0 := o12_x.free 0
        have q12_x_1 := o12_x.cell (i := 1) rfl
        have f12_x_1 := o12_x.free 1
        have q12_x_2 := o12_x.cell (i := 2) rfl
        have f12_x_2 := o12_x.free 2
        have l12_x := o12_x.lt
        have H12_x := hide o12_x
        clear o12_x
        have hy12 : w.heap.size ≤ w12.heap.size := hB12.size
        clear hb12
        go_wp2
        go_ret
        exact ⟨rfl, by go_grown⟩
      · obtain ⟨kv, kc, hK⟩ : ∃ kv kc, ringOfN e k o ep = (kv, kc) := ⟨_, _, rfl⟩
        have RK := hide (fun W => rKey_eq hK he0 he1 h1 h2 W)
        have KK := hide (fun W => ringKey (e := e) (k := k) (o := o) (ep := ep) (v := kv) (c := kc) (by unfold ringKeyN; rw [if_neg (by simp [hc]), if_pos (epB_true.2 ⟨h1, h2⟩), hK]) W)
        clear hT RC hc hK
        go_enter Tryd.func11, Tryd.ntmps11
        go_wp2_with fail
        refine (SI.out _).mono ?_
        rintro e w501 ⟨rfl, rfl⟩
        go_wp2_with fail
        refine (TG.out _ _ (objNew (by simp))).mono ?_
        rintro e w502 ⟨rfl, rfl⟩
        go_wp2_with fail
        refine (NW.out _).mono ?_
        rintro e w3 ⟨rfl, hb3⟩
        have hB3 : Below w.heap.size w w3 := by
          refine Below.trans ?_ (Below.mono hb3 ?_)
          · go_grown
          · first | omega | (simp; done) | (simp; omega)
        have o3_r : ObjAt w3 (w.heap.size) 24 [.int .i64 e, .int .i64 k, .int .i64 o] := ObjAt.below (ObjAt.alloc (ObjAt.alloc (objNew (by simp)) _) _) hb3
        have o3_want : ObjAt w3 (w.heap.size + 1) 24 [.int .i64 0, .int .i64 v, .int .i64 0] := ObjAt.below (ObjAt.alloc (objNew (by simp)) _) hb3
        have q3_r_0 := o3_r.cell (i := 0) rfl
        have q3_r_1 := o3_r.cell (i := 1) rfl
        have q3_r_2 := o3_r.cell (i := 2) rfl
        have l3_r := o3_r.lt
        have H3_r := hide o3_r
        clear o3_r
        have q3_want_0 := o3_want.cell (i := 0) rfl
        have f3_want_0 := o3_want.free 0
        have q3_want_1 := o3_want.cell (i := 1) rfl
        have f3_want_1 := o3_want.free 1
        have q3_want_2 := o3_want.cell (i := 2) rfl
        have f3_want_2 := o3_want.free 2
        have l3_want := o3_want.lt
        have H3_want := hide o3_want
        clear o3_want
        have hy3 : w.heap.size ≤ w3.heap.size := hB3.size
        clear hb3
        go_wp2_with fail
        refine (error_any 0 0 _ (hE.below (B := w.heap.size) (by go_grown) hE.pos)).mono ?_
        rintro e w4 ⟨rfl, hb4⟩
        have hB4 : Below w.heap.size w w4 := by
          refine Below.trans ?_ (Below.mono hb4 ?_)
          · go_grown
          · first | omega | (simp; done) | (simp; omega)
        have o4_r : ObjAt w4 (w.heap.size) 24 [.int .i64 e, .int .i64 k, .int .i64 o] := ObjAt.below (ObjAt.alloc (H3_r.out) _) hb4
        have o4_want : ObjAt w4 (w.heap.size + 1) 24 [.int .i64 0, .int .i64 v, .int .i64 0] := ObjAt.below (ObjAt.alloc (H3_want.out) _) hb4
        have o4_x : ObjAt w4 (w3.heap.size) 24 [.int .i64 0, .int .i64 v, .int .i64 0] := ObjAt.below (objNew (by simp)) hb4
        clear q3_r_0 q3_r_1 q3_r_2 H3_r q3_want_0 f3_want_0 q3_want_1 f3_want_1 q3_want_2 f3_want_2 H3_want
        have q4_r_0 := o4_r.cell (i := 0) rfl
        have q4_r_1 := o4_r.cell (i := 1) rfl
        have q4_r_2 := o4_r.cell (i := 2) rfl
        have l4_r := o4_r.lt
        have H4_r := hide o4_r
        clear o4_r
        have q4_want_0 := o4_want.cell (i := 0) rfl
        have f4_want_0 := o4_want.free 0
        have q4_want_1 := o4_want.cell (i := 1) rfl
        have f4_want_1 := o4_want.free 1
        have q4_want_2 := o4_want.cell (i := 2) rfl
        have f4_want_2 := o4_want.free 2
        have l4_want := o4_want.lt
        have H4_want := hide o4_want
        clear o4_want
        have q4_x_0 := o4_x.cell (i := 0) rfl
        have f4_x_0 := o4_x.free 0
        have q4_x_1 := o4_x.cell (i := 1) rfl
        have f4_x_1 := o4_x.free 1
        have q4_x_2 := o4_x.cell (i := 2) rfl
        have f4_x_2 := o4_x.free 2
        have l4_x := o4_x.lt
        have H4_x := hide o4_x
        clear o4_x
        have hy4 : w.heap.size ≤ w4.heap.size := hB4.size
        clear hb4
        go_wp2_with fail
        refine (RR.out _).mono ?_
        rintro e w5 ⟨rfl, hb5⟩
        have hB5 : Below w.heap.size w w5 := by
          refine Below.trans ?_ (Below.mono hb5 ?_)
          · go_grown
          · first | omega | (simp; done) | (simp; omega)
        have o5_r : ObjAt w5 (w.heap.size) 24 [.int .i64 e, .int .i64 k, .int .i64 o] := ObjAt.below (H4_r.out) hb5
        have o5_want : ObjAt w5 (w.heap.size + 1) 24 [.int .i64 0, .int .i64 v, .int .i64 0] := ObjAt.below (H4_want.out) hb5
        have o5_x : ObjAt w5 (w3.heap.size) 24 [.int .i64 0, .int .i64 v, .int .i64 0] := ObjAt.below (H4_x.out) hb5
        clear q4_r_0 q4_r_1 q4_r_2 H4_r q4_want_0 f4_want_0 q4_want_1 f4_want_1 q4_want_2 f4_want_2 H4_want q4_x_0 f4_x_0 q4_x_1 f4_x_1 q4_x_2 f4_x_2 H4_x
        have q5_r_0 := o5_r.cell (i := 0) rfl
        have q5_r_1 := o5_r.cell (i := 1) rfl
        have q5_r_2 := o5_r.cell (i := 2) rfl
        have l5_r := o5_r.lt
        have H5_r := hide o5_r
        clear o5_r
        have q5_want_0 := o5_want.cell (i := 0) rfl
        have f5_want_0 := o5_want.free 0
        have q5_want_1 := o5_want.cell (i := 1) rfl
        have f5_want_1 := o5_want.free 1
        have q5_want_2 := o5_want.cell (i := 2) rfl
        have f5_want_2 := o5_want.free 2
        have l5_want := o5_want.lt
        have H5_want := hide o5_want
        clear o5_want
        have q5_x_0 := o5_x.cell (i := 0) rfl
        have f5_x_0 := o5_x.free 0
        have q5_x_1 := o5_x.cell (i := 1) rfl
        have f5_x_1 := o5_x.free 1
        have q5_x_2 := o5_x.cell (i := 2) rfl
        have f5_x_2 := o5_x.free 2
        have l5_x := o5_x.lt
        have H5_x := hide o5_x
        clear o5_x
        have hy5 : w.heap.size ≤ w5.heap.size := hB5.size
        clear hb5
        go_wp2_with fail
        refine (RC'.out _).mono ?_
        rintro e w6 ⟨rfl, hb6⟩
        have hB6 : Below w.heap.size w w6 := by
          refine Below.trans ?_ (Below.mono hb6 ?_)
          · go_grown
          · first | omega | (simp; done) | (simp; omega)
        have o6_r : ObjAt w6 (w.heap.size) 24 [.int .i64 e, .int .i64 k, .int .i64 o] := ObjAt.below (H5_r.out) hb6
        have o6_want : ObjAt w6 (w.heap.size + 1) 24 [.int .i64 0, .int .i64 v, .int .i64 0] := ObjAt.below (H5_want.out) hb6
        have o6_x : ObjAt w6 (w3.heap.size) 24 [.int .i64 0, .int .i64 v, .int .i64 0] := ObjAt.below (H5_x.out) hb6
        clear q5_r_0 q5_r_1 q5_r_2 H5_r q5_want_0 f5_want_0 q5_want_1 f5_want_1 q5_want_2 f5_want_2 H5_want q5_x_0 f5_x_0 q5_x_1 f5_x_1 q5_x_2 f5_x_2 H5_x
        have q6_r_0 := o6_r.cell (i := 0) rfl
        have q6_r_1 := o6_r.cell (i := 1) rfl
        have q6_r_2 := o6_r.cell (i := 2) rfl
        have l6_r := o6_r.lt
        have H6_r := hide o6_r
        clear o6_r
        have q6_want_0 := o6_want.cell (i := 0) rfl
        have f6_want_0 := o6_want.free 0
        have q6_want_1 := o6_want.cell (i := 1) rfl
        have f6_want_1 := o6_want.free 1
        have q6_want_2 := o6_want.cell (i := 2) rfl
        have f6_want_2 := o6_want.free 2
        have l6_want := o6_want.lt
        have H6_want := hide o6_want
        clear o6_want
        have q6_x_0 := o6_x.cell (i := 0) rfl
        have f6_x_0 := o6_x.free 0
        have q6_x_1 := o6_x.cell (i := 1) rfl
        have f6_x_1 := o6_x.free 1
        have q6_x_2 := o6_x.cell (i := 2) rfl
        have f6_x_2 := o6_x.free 2
        have l6_x := o6_x.lt
        have H6_x := hide o6_x
        clear o6_x
        have hy6 : w.heap.size ≤ w6.heap.size := hB6.size
        clear hb6
        go_wp2_with fail
        refine (error_any 0 0 _ (hE.below (B := w.heap.size) (by go_grown) hE.pos)).mono ?_
        rintro e w7 ⟨rfl, hb7⟩
        have hB7 : Below w.heap.size w w7 := by
          refine Below.trans ?_ (Below.mono hb7 ?_)
          · go_grown
          · first | omega | (simp; done) | (simp; omega)
        have o7_r : ObjAt w7 (w.heap.size) 24 [.int .i64 e, .int .i64 k, .int .i64 o] := ObjAt.below (H6_r.out) hb7
        have o7_want : ObjAt w7 (w.heap.size + 1) 24 [.int .i64 0, .int .i64 v, .int .i64 0] := ObjAt.below (H6_want.out) hb7
        have o7_x : ObjAt w7 (w3.heap.size) 24 [.int .i64 0, .int .i64 v, .int .i64 0] := ObjAt.below (H6_x.out) hb7
        clear q6_r_0 q6_r_1 q6_r_2 H6_r q6_want_0 f6_want_0 q6_want_1 f6_want_1 q6_want_2 f6_want_2 H6_want q6_x_0 f6_x_0 q6_x_1 f6_x_1 q6_x_2 f6_x_2 H6_x
        have q7_r_0 := o7_r.cell (i := 0) rfl
        have q7_r_1 := o7_r.cell (i := 1) rfl
        have q7_r_2 := o7_r.cell (i := 2) rfl
        have l7_r := o7_r.lt
        have H7_r := hide o7_r
        clear o7_r
        have q7_want_0 := o7_want.cell (i := 0) rfl
        have f7_want_0 := o7_want.free 0
        have q7_want_1 := o7_want.cell (i := 1) rfl
        have f7_want_1 := o7_want.free 1
        have q7_want_2 := o7_want.cell (i := 2) rfl
        have f7_want_2 := o7_want.free 2
        have l7_want := o7_want.lt
        have H7_want := hide o7_want
        clear o7_want
        have q7_x_0 := o7_x.cell (i := 0) rfl
        have f7_x_0 := o7_x.free 0
        have q7_x_1 := o7_x.cell (i := 1) rfl
        have f7_x_1 := o7_x.free 1
        have q7_x_2 := o7_x.cell (i := 2) rfl
        have f7_x_2 := o7_x.free 2
        have l7_x := o7_x.lt
        have H7_x := hide o7_x
        clear o7_x
        have hy7 : w.heap.size ≤ w7.heap.size := hB7.size
        clear hb7
        go_wp2_with fail
        refine (RT.out _).mono ?_
        rintro e w8 ⟨rfl, hb8⟩
        have hB8 : Below w.heap.size w w8 := by
          refine Below.trans ?_ (Below.mono hb8 ?_)
          · go_grown
          · first | omega | (simp; done) | (simp; omega)
        have o8_r : ObjAt w8 (w.heap.size) 24 [.int .i64 e, .int .i64 k, .int .i64 o] := ObjAt.below (ObjAt.other3 (H7_r.out) (by omega)) hb8
        have o8_want : ObjAt w8 (w.heap.size + 1) 24 [.int .i64 0, .int .i64 0, .int .i64 0] := ObjAt.below (ObjAt.set3 (H7_want.out)) hb8
        have o8_x : ObjAt w8 (w3.heap.size) 24 [.int .i64 0, .int .i64 v, .int .i64 0] := ObjAt.below (ObjAt.other3 (H7_x.out) (by omega)) hb8
        clear q7_r_0 q7_r_1 q7_r_2 H7_r q7_want_0 f7_want_0 q7_want_1 f7_want_1 q7_want_2 f7_want_2 H7_want q7_x_0 f7_x_0 q7_x_1 f7_x_1 q7_x_2 f7_x_2 H7_x
        have q8_r_0 := o8_r.cell (i := 0) rfl
        have q8_r_1 := o8_r.cell (i := 1) rfl
        have q8_r_2 := o8_r.cell (i := 2) rfl
        have l8_r := o8_r.lt
        have H8_r := hide o8_r
        clear o8_r
        have q8_want_0 := o8_want.cell (i := 0) rfl
        have f8_want_0 := o8_want.free 0
        have q8_want_1 := o8_want.cell (i := 1) rfl
        have f8_want_1 := o8_want.free 1
        have q8_want_2 := o8_want.cell (i := 2) rfl
        have f8_want_2 := o8_want.free 2
        have l8_want := o8_want.lt
        have H8_want := hide o8_want
        clear o8_want
        have q8_x_0 := o8_x.cell (i := 0) rfl
        have f8_x_0 := o8_x.free 0
        have q8_x_1 := o8_x.cell (i := 1) rfl
        have f8_x_1 := o8_x.free 1
        have q8_x_2 := o8_x.cell (i := 2) rfl
        have f8_x_2 := o8_x.free 2
        have l8_x := o8_x.lt
        have H8_x := hide o8_x
        clear o8_x
        have hy8 : w.heap.size ≤ w8.heap.size := hB8.size
        clear hb8
        go_wp2_with fail
        refine (TT.out _).mono ?_
        rintro e w9 ⟨rfl, hb9⟩
        have hB9 : Below w.heap.size w w9 := by
          refine Below.trans ?_ (Below.mono hb9 ?_)
          · go_grown
          · first | omega | (simp; done) | (simp; omega)
        have o9_r : ObjAt w9 (w.heap.size) 24 [.int .i64 e, .int .i64 k, .int .i64 o] := ObjAt.below (ObjAt.other3 (H8_r.out) (by omega)) hb9
        have o9_want : ObjAt w9 (w.heap.size + 1) 24 [.int .i64 t1, .int .i64 t2, .int .i64 t3] := ObjAt.below (ObjAt.set3 (H8_want.out)) hb9
        have o9_x : ObjAt w9 (w3.heap.size) 24 [.int .i64 0, .int .i64 v, .int .i64 0] := ObjAt.below (ObjAt.other3 (H8_x.out) (by omega)) hb9
        clear q8_r_0 q8_r_1 q8_r_2 H8_r q8_want_0 f8_want_0 q8_want_1 f8_want_1 q8_want_2 f8_want_2 H8_want q8_x_0 f8_x_0 q8_x_1 f8_x_1 q8_x_2 f8_x_2 H8_x
        have q9_r_0 := o9_r.cell (i := 0) rfl
        have q9_r_1 := o9_r.cell (i := 1) rfl
        have q9_r_2 := o9_r.cell (i := 2) rfl
        have l9_r := o9_r.lt
        have H9_r := hide o9_r
        clear o9_r
        have q9_want_0 := o9_want.cell (i := 0) rfl
        have f9_want_0 := o9_want.free 0
        have q9_want_1 := o9_want.cell (i := 1) rfl
        have f9_want_1 := o9_want.free 1
        have q9_want_2 := o9_want.cell (i := 2) rfl
        have f9_want_2 := o9_want.free 2
        have l9_want := o9_want.lt
        have H9_want := hide o9_want
        clear o9_want
        have q9_x_0 := o9_x.cell (i := 0) rfl
        have f9_x_0 := o9_x.free 0
        have q9_x_1 := o9_x.cell (i := 1) rfl
        have f9_x_1 := o9_x.free 1
        have q9_x_2 := o9_x.cell (i := 2) rfl
        have f9_x_2 := o9_x.free 2
        have l9_x := o9_x.lt
        have H9_x := hide o9_x
        clear o9_x
        have hy9 : w.heap.size ≤ w9.heap.size := hB9.size
        clear hb9
        go_wp2_with fail
        refine (error_any f f _ (hE.below (B := w.heap.size) (by go_grown) hE.pos)).mono ?_
        rintro e w10 ⟨rfl, hb10⟩
        have hB10 : Below w.heap.size w w10 := by
          refine Below.trans ?_ (Below.mono hb10 ?_)
          · go_grown
          · first | omega | (simp; done) | (simp; omega)
        have o10_r : ObjAt w10 (w.heap.size) 24 [.int .i64 e, .int .i64 k, .int .i64 o] := ObjAt.below (ObjAt.other3 (H9_r.out) (by omega)) hb10
        have o10_want : ObjAt w10 (w.heap.size + 1) 24 [.int .i64 t1, .int .i64 t2, .int .i64 t3] := ObjAt.below (ObjAt.other3 (H9_want.out) (by omega)) hb10
        have o10_x : ObjAt w10 (w3.heap.size) 24 [.int .i64 t1, .int .i64 t2, .int .i64 t3] := ObjAt.below (ObjAt.set3 (H9_x.out)) hb10
        clear q9_r_0 q9_r_1 q9_r_2 H9_r q9_want_0 f9_want_0 q9_want_1 f9_want_1 q9_want_2 f9_want_2 H9_want q9_x_0 f9_x_0 q9_x_1 f9_x_1 q9_x_2 f9_x_2 H9_x
        have q10_r_0 := o10_r.cell (i := 0) rfl
        have q10_r_1 := o10_r.cell (i := 1) rfl
        have q10_r_2 := o10_r.cell (i := 2) rfl
        have l10_r := o10_r.lt
        have H10_r := hide o10_r
        clear o10_r
        have q10_want_0 := o10_want.cell (i := 0) rfl
        have f10_want_0 := o10_want.free 0
        have q10_want_1 := o10_want.cell (i := 1) rfl
        have f10_want_1 := o10_want.free 1
        have q10_want_2 := o10_want.cell (i := 2) rfl
        have f10_want_2 := o10_want.free 2
        have l10_want := o10_want.lt
        have H10_want := hide o10_want
        clear o10_want
        have q10_x_0 := o10_x.cell (i := 0) rfl
        have f10_x_0 := o10_x.free 0
        have q10_x_1 := o10_x.cell (i := 1) rfl
        have f10_x_1 := o10_x.free 1
        have q10_x_2 := o10_x.cell (i := 2) rfl
        have f10_x_2 := o10_x.free 2
        have l10_x := o10_x.lt
        have H10_x := hide o10_x
        clear o10_x
        have hy10 : w.heap.size ≤ w10.heap.size := hB10.size
        clear hb10
        go_wp2_with fail
        refine (RK.out _).mono ?_
        rintro e w11 ⟨rfl, hb11⟩
        have hB11 : Below w.heap.size w w11 := by
          refine Below.trans ?_ (Below.mono hb11 ?_)
          · go_grown
          · first | omega | (simp; done) | (simp; omega)
        have o11_r : ObjAt w11 (w.heap.size) 24 [.int .i64 e, .int .i64 k, .int .i64 o] := ObjAt.below (H10_r.out) hb11
        have o11_want : ObjAt w11 (w.heap.size + 1) 24 [.int .i64 t1, .int .i64 t2, .int .i64 t3] := ObjAt.below (H10_want.out) hb11
        have o11_x : ObjAt w11 (w3.heap.size) 24 [.int .i64 t1, .int .i64 t2, .int .i64 t3] := ObjAt.below (H10_x.out) hb11
        clear q10_r_0 q10_r_1 q10_r_2 H10_r q10_want_0 f10_want_0 q10_want_1 f10_want_1 q10_want_2 f10_want_2 H10_want q10_x_0 f10_x_0 q10_x_1 f10_x_1 q10_x_2 f10_x_2 H10_x
        have q11_r_0 := o11_r.cell (i := 0) rfl
        have q11_r_1 := o11_r.cell (i := 1) rfl
        have q11_r_2 := o11_r.cell (i := 2) rfl
        have l11_r := o11_r.lt
        have H11_r := hide o11_r
        clear o11_r
        have q11_want_0 := o11_want.cell (i := 0) rfl
        have f11_want_0 := o11_want.free 0
        have q11_want_1 := o11_want.cell (i := 1) rfl
        have f11_want_1 := o11_want.free 1
        have q11_want_2 := o11_want.cell (i := 2) rfl
        have f11_want_2 := o11_want.free 2
        have l11_want := o11_want.lt
        have H11_want := hide o11_want
        clear o11_want
        have q11_x_0 := o11_x.cell (i := 0) rfl
        have f11_x_0 := o11_x.free 0
        have q11_x_1 := o11_x.cell (i := 1) rfl
        have f11_x_1 := o11_x.free 1
        have q11_x_2 := o11_x.cell (i := 2) rfl
        have f11_x_2 := o11_x.free 2
        have l11_x := o11_x.lt
        have H11_x := hide o11_x
        clear o11_x
        have hy11 : w.heap.size ≤ w11.heap.size := hB11.size
        clear hb11
        go_wp2_with fail
        refine (KK.out _).mono ?_
        rintro e w12 ⟨rfl, hb12⟩
        have hB12 : Below w.heap.size w w12 := by
          refine Below.trans ?_ (Below.mono hb12 ?_)
          · go_grown
          · first | omega | (simp; done) | (simp; omega)
        have o12_r : ObjAt w12 (w.heap.size) 24 [.int .i64 e, .int .i64 k, .int .i64 o] := ObjAt.below (H11_r.out) hb12
        have o12_want : ObjAt w12 (w.heap.size + 1) 24 [.int .i64 t1, .int .i64 t2, .int .i64 t3] := ObjAt.below (H11_want.out) hb12
        have o12_x : ObjAt w12 (w3.heap.size) 24 [.int .i64 t1, .int .i64 t2, .int .i64 t3] := ObjAt.below (H11_x.out) hb12
        clear q11_r_0 q11_r_1 q11_r_2 H11_r q11_want_0 f11_want_0 q11_want_1 f11_want_1 q11_want_2 f11_want_2 H11_want q11_x_0 f11_x_0 q11_x_1 f11_x_1 q11_x_2 f11_x_2 H11_x
        have q12_r_0 := o12_r.cell (i := 0) rfl
        have q12_r_1 := o12_r.cell (i := 1) rfl
        have q12_r_2 := o12_r.cell (i := 2) rfl
        have l12_r := o12_r.lt
        have H12_r := hide o12_r
        clear o12_r
        have q12_want_0 := o12_want.cell (i := 0) rfl
        have f12_want_0 := o12_want.free 0
        have q12_want_1 := o12_want.cell (i := 1) rfl
        have f12_want_1 := o12_want.free 1
        have q12_want_2 := o12_want.cell (i := 2) rfl
        have f12_want_2 := o12_want.free 2
        have l12_want := o12_want.lt
        have H12_want := hide o12_want
        clear o12_want
        have q12_x_0 := o12_x.cell (i := 0) rfl
        have f12_x_0 := o12_x.free 0
        have q12_x_1 := o12_x.cell (i := 1) rfl
        have f12_x_1 := o12_x.free 1
        have q12_x_2 := o12_x.cell (i := 2) rfl
        have f12_x_2 := o12_x.free 2
        have l12_x := o12_x.lt
        have H12_x := hide o12_x
        clear o12_x
        have hy12 : w.heap.size ≤ w12.heap.size := hB12.size
        clear hb12
        go_wp2_with fail
        refine (error_any kc kc _ (hE.below (B := w.heap.size) (by go_grown) hE.pos)).mono ?_
        rintro e w13 ⟨rfl, hb13⟩
        have hB13 : Below w.heap.size w w13 := by
          refine Below.trans ?_ (Below.mono hb13 ?_)
          · go_grown
          · first | omega | (simp; done) | (simp; omega)
        have o13_r : ObjAt w13 (w.heap.size) 24 [.int .i64 e, .int .i64 k, .int .i64 o] := ObjAt.below (H12_r.out) hb13
        have o13_want : ObjAt w13 (w.heap.size + 1) 24 [.int .i64 t1, .int .i64 t2, .int .i64 t3] := ObjAt.below (H12_want.out) hb13
        have o13_x : ObjAt w13 (w3.heap.size) 24 [.int .i64 t1, .int .i64 t2, .int .i64 t3] := ObjAt.below (H12_x.out) hb13
        clear q12_r_0 q12_r_1 q12_r_2 H12_r q12_want_0 f12_want_0 q12_want_1 f12_want_1 q12_want_2 f12_want_2 H12_want q12_x_0 f12_x_0 q12_x_1 f12_x_1 q12_x_2 f12_x_2 H12_x
        have q13_r_0 := o13_r.cell (i := 0) rfl
        have q13_r_1 := o13_r.cell (i := 1) rfl
        have q13_r_2 := o13_r.cell (i := 2) rfl
        have l13_r := o13_r.lt
        have H13_r := hide o13_r
        clear o13_r
        have q13_want_0 := o13_want.cell (i := 0) rfl
        have f13_want_0 := o13_want.free 0
        have q13_want_1 := o13_want.cell (i := 1) rfl
        have f13_want_1 := o13_want.free 1
        have q13_want_2 := o13_want.cell (i := 2) rfl
        have f13_want_2 := o13_want.free 2
        have l13_want := o13_want.lt
        have H13_want := hide o13_want
        clear o13_want
        have q13_x_0 := o13_x.cell (i := 0) rfl
        have f13_x_0 := o13_x.free 0
        have q13_x_1 := o13_x.cell (i := 1) rfl
        have f13_x_1 := o13_x.free 1
        have q13_x_2 := o13_x.cell (i := 2) rfl
        have f13_x_2 := o13_x.free 2
        have l13_x := o13_x.lt
        have H13_x := hide o13_x
        clear o13_x
        have hy13 : w.heap.size ≤ w13.heap.size := hB13.size
        clear hb13
        go_wp2
        go_ret
        exact ⟨rfl, by go_grown⟩
    · have t1 : (c == 0) = false := beq_eq_false_iff_ne.2 h0
      have TT := hide (fun W => ringTurn_bad hc h0 W)
      have KK := hide (fun W => ringKey (e := e) (k := k) (o := o) (ep := ep) (v := 0) (c := c) (by unfold ringKeyN; rw [if_pos (by rw [hc]; exact h0), hc]) W)
      clear hc h0
      go_enter Tryd.func11, Tryd.ntmps11
      go_wp2_with fail
      refine (SI.out _).mono ?_
      rintro e w501 ⟨rfl, rfl⟩
      go_wp2_with fail
      refine (TG.out _ _ (objNew (by simp))).mono ?_
      rintro e w502 ⟨rfl, rfl⟩
      go_wp2_with fail
      refine (NW.out _).mono ?_
      rintro e w3 ⟨rfl, hb3⟩
      have hB3 : Below w.heap.size w w3 := by
        refine Below.trans ?_ (Below.mono hb3 ?_)
        · go_grown
        · first | omega | (simp; done) | (simp; omega)
      have o3_r : ObjAt w3 (w.heap.size) 24 [.int .i64 e, .int .i64 k, .int .i64 o] := ObjAt.below (ObjAt.alloc (ObjAt.alloc (objNew (by simp)) _) _) hb3
      have o3_want : ObjAt w3 (w.heap.size + 1) 24 [.int .i64 0, .int .i64 v, .int .i64 0] := ObjAt.below (ObjAt.alloc (objNew (by simp)) _) hb3
      have q3_r_0 := o3_r.cell (i := 0) rfl
      have q3_r_1 := o3_r.cell (i := 1) rfl
      have q3_r_2 := o3_r.cell (i := 2) rfl
      have l3_r := o3_r.lt
      have H3_r := hide o3_r
      clear o3_r
      have q3_want_0 := o3_want.cell (i := 0) rfl
      have f3_want_0 := o3_want.free 0
      have q3_want_1 := o3_want.cell (i := 1) rfl
      have f3_want_1 := o3_want.free 1
      have q3_want_2 := o3_want.cell (i := 2) rfl
      have f3_want_2 := o3_want.free 2
      have l3_want := o3_want.lt
      have H3_want := hide o3_want
      clear o3_want
      have hy3 : w.heap.size ≤ w3.heap.size := hB3.size
      clear hb3
      go_wp2_with fail
      refine (error_any 0 0 _ (hE.below (B := w.heap.size) (by go_grown) hE.pos)).mono ?_
      rintro e w4 ⟨rfl, hb4⟩
      have hB4 : Below w.heap.size w w4 := by
        refine Below.trans ?_ (Below.mono hb4 ?_)
        · go_grown
        · first | omega | (simp; done) | (simp; omega)
      have o4_r : ObjAt w4 (w.heap.size) 24 [.int .i64 e, .int .i64 k, .int .i64 o] := ObjAt.below (ObjAt.alloc (H3_r.out) _) hb4
      have o4_want : ObjAt w4 (w.heap.size + 1) 24 [.int .i64 0, .int .i64 v, .int .i64 0] := ObjAt.below (ObjAt.alloc (H3_want.out) _) hb4
      have o4_x : ObjAt w4 (w3.heap.size) 24 [.int .i64 0, .int .i64 v, .int .i64 0] := ObjAt.below (objNew (by simp)) hb4
      clear q3_r_0 q3_r_1 q3_r_2 H3_r q3_want_0 f3_want_0 q3_want_1 f3_want_1 q3_want_2 f3_want_2 H3_want
      have q4_r_0 := o4_r.cell (i := 0) rfl
      have q4_r_1 := o4_r.cell (i := 1) rfl
      have q4_r_2 := o4_r.cell (i := 2) rfl
      have l4_r := o4_r.lt
      have H4_r := hide o4_r
      clear o4_r
      have q4_want_0 := o4_want.cell (i := 0) rfl
      have f4_want_0 := o4_want.free 0
      have q4_want_1 := o4_want.cell (i := 1) rfl
      have f4_want_1 := o4_want.free 1
      have q4_want_2 := o4_want.cell (i := 2) rfl
      have f4_want_2 := o4_want.free 2
      have l4_want := o4_want.lt
      have H4_want := hide o4_want
      clear o4_want
      have q4_x_0 := o4_x.cell (i := 0) rfl
      have f4_x_0 := o4_x.free 0
      have q4_x_1 := o4_x.cell (i := 1) rfl
      have f4_x_1 := o4_x.free 1
      have q4_x_2 := o4_x.cell (i := 2) rfl
      have f4_x_2 := o4_x.free 2
      have l4_x := o4_x.lt
      have H4_x := hide o4_x
      clear o4_x
      have hy4 : w.heap.size ≤ w4.heap.size := hB4.size
      clear hb4
      go_wp2_with fail
      refine (RR.out _).mono ?_
      rintro e w5 ⟨rfl, hb5⟩
      have hB5 : Below w.heap.size w w5 := by
        refine Below.trans ?_ (Below.mono hb5 ?_)
        · go_grown
        · first | omega | (simp; done) | (simp; omega)
      have o5_r : ObjAt w5 (w.heap.size) 24 [.int .i64 e, .int .i64 k, .int .i64 o] := ObjAt.below (H4_r.out) hb5
      have o5_want : ObjAt w5 (w.heap.size + 1) 24 [.int .i64 0, .int .i64 v, .int .i64 0] := ObjAt.below (H4_want.out) hb5
      have o5_x : ObjAt w5 (w3.heap.size) 24 [.int .i64 0, .int .i64 v, .int .i64 0] := ObjAt.below (H4_x.out) hb5
      clear q4_r_0 q4_r_1 q4_r_2 H4_r q4_want_0 f4_want_0 q4_want_1 f4_want_1 q4_want_2 f4_want_2 H4_want q4_x_0 f4_x_0 q4_x_1 f4_x_1 q4_x_2 f4_x_2 H4_x
      have q5_r_0 := o5_r.cell (i := 0) rfl
      have q5_r_1 := o5_r.cell (i := 1) rfl
      have q5_r_2 := o5_r.cell (i := 2) rfl
      have l5_r := o5_r.lt
      have H5_r := hide o5_r
      clear o5_r
      have q5_want_0 := o5_want.cell (i := 0) rfl
      have f5_want_0 := o5_want.free 0
      have q5_want_1 := o5_want.cell (i := 1) rfl
      have f5_want_1 := o5_want.free 1
      have q5_want_2 := o5_want.cell (i := 2) rfl
      have f5_want_2 := o5_want.free 2
      have l5_want := o5_want.lt
      have H5_want := hide o5_want
      clear o5_want
      have q5_x_0 := o5_x.cell (i := 0) rfl
      have f5_x_0 := o5_x.free 0
      have q5_x_1 := o5_x.cell (i := 1) rfl
      have f5_x_1 := o5_x.free 1
      have q5_x_2 := o5_x.cell (i := 2) rfl
      have f5_x_2 := o5_x.free 2
      have l5_x := o5_x.lt
      have H5_x := hide o5_x
      clear o5_x
      have hy5 : w.heap.size ≤ w5.heap.size := hB5.size
      clear hb5
      go_wp2_with fail
      refine (RC.out _).mono ?_
      rintro e w6 ⟨rfl, hb6⟩
      have hB6 : Below w.heap.size w w6 := by
        refine Below.trans ?_ (Below.mono hb6 ?_)
        · go_grown
        · first | omega | (simp; done) | (simp; omega)
      have o6_r : ObjAt w6 (w.heap.size) 24 [.int .i64 e, .int .i64 k, .int .i64 o] := ObjAt.below (H5_r.out) hb6
      have o6_want : ObjAt w6 (w.heap.size + 1) 24 [.int .i64 0, .int .i64 v, .int .i64 0] := ObjAt.below (H5_want.out) hb6
      have o6_x : ObjAt w6 (w3.heap.size) 24 [.int .i64 0, .int .i64 v, .int .i64 0] := ObjAt.below (H5_x.out) hb6
      clear q5_r_0 q5_r_1 q5_r_2 H5_r q5_want_0 f5_want_0 q5_want_1 f5_want_1 q5_want_2 f5_want_2 H5_want q5_x_0 f5_x_0 q5_x_1 f5_x_1 q5_x_2 f5_x_2 H5_x
      have q6_r_0 := o6_r.cell (i := 0) rfl
      have q6_r_1 := o6_r.cell (i := 1) rfl
      have q6_r_2 := o6_r.cell (i := 2) rfl
      have l6_r := o6_r.lt
      have H6_r := hide o6_r
      clear o6_r
      have q6_want_0 := o6_want.cell (i := 0) rfl
      have f6_want_0 := o6_want.free 0
      have q6_want_1 := o6_want.cell (i := 1) rfl
      have f6_want_1 := o6_want.free 1
      have q6_want_2 := o6_want.cell (i := 2) rfl
      have f6_want_2 := o6_want.free 2
      have l6_want := o6_want.lt
      have H6_want := hide o6_want
      clear o6_want
      have q6_x_0 := o6_x.cell (i := 0) rfl
      have f6_x_0 := o6_x.free 0
      have q6_x_1 := o6_x.cell (i := 1) rfl
      have f6_x_1 := o6_x.free 1
      have q6_x_2 := o6_x.cell (i := 2) rfl
      have f6_x_2 := o6_x.free 2
      have l6_x := o6_x.lt
      have H6_x := hide o6_x
      clear o6_x
      have hy6 : w.heap.size ≤ w6.heap.size := hB6.size
      clear hb6
      go_wp2_with fail
      refine (error_any c c _ (hE.below (B := w.heap.size) (by go_grown) hE.pos)).mono ?_
      rintro e w7 ⟨rfl, hb7⟩
      have hB7 : Below w.heap.size w w7 := by
        refine Below.trans ?_ (Below.mono hb7 ?_)
        · go_grown
        · first | omega | (simp; done) | (simp; omega)
      have o7_r : ObjAt w7 (w.heap.size) 24 [.int .i64 e, .int .i64 k, .int .i64 o] := ObjAt.below (H6_r.out) hb7
      have o7_want : ObjAt w7 (w.heap.size + 1) 24 [.int .i64 0, .int .i64 v, .int .i64 0] := ObjAt.below (H6_want.out) hb7
      have o7_x : ObjAt w7 (w3.heap.size) 24 [.int .i64 0, .int .i64 v, .int .i64 0] := ObjAt.below (H6_x.out) hb7
      clear q6_r_0 q6_r_1 q6_r_2 H6_r q6_want_0 f6_want_0 q6_want_1 f6_want_1 q6_want_2 f6_want_2 H6_want q6_x_0 f6_x_0 q6_x_1 f6_x_1 q6_x_2 f6_x_2 H6_x
      have q7_r_0 := o7_r.cell (i := 0) rfl
      have q7_r_1 := o7_r.cell (i := 1) rfl
      have q7_r_2 := o7_r.cell (i := 2) rfl
      have l7_r := o7_r.lt
      have H7_r := hide o7_r
      clear o7_r
      have q7_want_0 := o7_want.cell (i := 0) rfl
      have f7_want_0 := o7_want.free 0
      have q7_want_1 := o7_want.cell (i := 1) rfl
      have f7_want_1 := o7_want.free 1
      have q7_want_2 := o7_want.cell (i := 2) rfl
      have f7_want_2 := o7_want.free 2
      have l7_want := o7_want.lt
      have H7_want := hide o7_want
      clear o7_want
      have q7_x_0 := o7_x.cell (i := 0) rfl
      have f7_x_0 := o7_x.free 0
      have q7_x_1 := o7_x.cell (i := 1) rfl
      have f7_x_1 := o7_x.free 1
      have q7_x_2 := o7_x.cell (i := 2) rfl
      have f7_x_2 := o7_x.free 2
      have l7_x := o7_x.lt
      have H7_x := hide o7_x
      clear o7_x
      have hy7 : w.heap.size ≤ w7.heap.size := hB7.size
      clear hb7
      go_wp2_with fail
      refine (TT.out _).mono ?_
      rintro e w8 ⟨rfl, hb8⟩
      have hB8 : Below w.heap.size w w8 := by
        refine Below.trans ?_ (Below.mono hb8 ?_)
        · go_grown
        · first | omega | (simp; done) | (simp; omega)
      have o8_r : ObjAt w8 (w.heap.size) 24 [.int .i64 e, .int .i64 k, .int .i64 o] := ObjAt.below (ObjAt.other3 (H7_r.out) (by omega)) hb8
      have o8_want : ObjAt w8 (w.heap.size + 1) 24 [.int .i64 0, .int .i64 0, .int .i64 0] := ObjAt.below (ObjAt.set3 (H7_want.out)) hb8
      have o8_x : ObjAt w8 (w3.heap.size) 24 [.int .i64 0, .int .i64 v, .int .i64 0] := ObjAt.below (ObjAt.other3 (H7_x.out) (by omega)) hb8
      clear q7_r_0 q7_r_1 q7_r_2 H7_r q7_want_0 f7_want_0 q7_want_1 f7_want_1 q7_want_2 f7_want_2 H7_want q7_x_0 f7_x_0 q7_x_1 f7_x_1 q7_x_2 f7_x_2 H7_x
      have q8_r_0 := o8_r.cell (i := 0) rfl
      have q8_r_1 := o8_r.cell (i := 1) rfl
      have q8_r_2 := o8_r.cell (i := 2) rfl
      have l8_r := o8_r.lt
      have H8_r := hide o8_r
      clear o8_r
      have q8_want_0 := o8_want.cell (i := 0) rfl
      have f8_want_0 := o8_want.free 0
      have q8_want_1 := o8_want.cell (i := 1) rfl
      have f8_want_1 := o8_want.free 1
      have q8_want_2 := o8_want.cell (i := 2) rfl
      have f8_want_2 := o8_want.free 2
      have l8_want := o8_want.lt
      have H8_want := hide o8_want
      clear o8_want
      have q8_x_0 := o8_x.cell (i := 0) rfl
      have f8_x_0 := o8_x.free 0
      have q8_x_1 := o8_x.cell (i := 1) rfl
      have f8_x_1 := o8_x.free 1
      have q8_x_2 := o8_x.cell (i := 2) rfl
      have f8_x_2 := o8_x.free 2
      have l8_x := o8_x.lt
      have H8_x := hide o8_x
      clear o8_x
      have hy8 : w.heap.size ≤ w8.heap.size := hB8.size
      clear hb8
      go_wp2_with fail
      refine (error_any c c _ (hE.below (B := w.heap.size) (by go_grown) hE.pos)).mono ?_
      rintro e w9 ⟨rfl, hb9⟩
      have hB9 : Below w.heap.size w w9 := by
        refine Below.trans ?_ (Below.mono hb9 ?_)
        · go_grown
        · first | omega | (simp; done) | (simp; omega)
      have o9_r : ObjAt w9 (w.heap.size) 24 [.int .i64 e, .int .i64 k, .int .i64 o] := ObjAt.below (ObjAt.other3 (H8_r.out) (by omega)) hb9
      have o9_want : ObjAt w9 (w.heap.size + 1) 24 [.int .i64 0, .int .i64 0, .int .i64 0] := ObjAt.below (ObjAt.other3 (H8_want.out) (by omega)) hb9
      have o9_x : ObjAt w9 (w3.heap.size) 24 [.int .i64 0, .int .i64 0, .int .i64 0] := ObjAt.below (ObjAt.set3 (H8_x.out)) hb9
      clear q8_r_0 q8_r_1 q8_r_2 H8_r q8_want_0 f8_want_0 q8_want_1 f8_want_1 q8_want_2 f8_want_2 H8_want q8_x_0 f8_x_0 q8_x_1 f8_x_1 q8_x_2 f8_x_2 H8_x
      have q9_r_0 := o9_r.cell (i := 0) rfl
      have q9_r_1 := o9_r.cell (i := 1) rfl
      have q9_r_2 := o9_r.cell (i := 2) rfl
      have l9_r := o9_r.lt
      have H9_r := hide o9_r
      clear o9_r
      have q9_want_0 := o9_want.cell (i := 0) rfl
      have f9_want_0 := o9_want.free 0
      have q9_want_1 := o9_want.cell (i := 1) rfl
      have f9_want_1 := o9_want.free 1
      have q9_want_2 := o9_want.cell (i := 2) rfl
      have f9_want_2 := o9_want.free 2
      have l9_want := o9_want.lt
      have H9_want := hide o9_want
      clear o9_want
      have q9_x_0 := o9_x.cell (i := 0) rfl
      have f9_x_0 := o9_x.free 0
      have q9_x_1 := o9_x.cell (i := 1) rfl
      have f9_x_1 := o9_x.free 1
      have q9_x_2 := o9_x.cell (i := 2) rfl
      have f9_x_2 := o9_x.free 2
      have l9_x := o9_x.lt
      have H9_x := hide o9_x
      clear o9_x
      have hy9 : w.heap.size ≤ w9.heap.size := hB9.size
      clear hb9
      go_wp2_with fail
      refine (KK.out _).mono ?_
      rintro e w10 ⟨rfl, hb10⟩
      have hB10 : Below w.heap.size w w10 := by
        refine Below.trans ?_ (Below.mono hb10 ?_)
        · go_grown
        · first | omega | (simp; done) | (simp; omega)
      have o10_r : ObjAt w10 (w.heap.size) 24 [.int .i64 e, .int .i64 k, .int .i64 o] := ObjAt.below (H9_r.out) hb10
      have o10_want : ObjAt w10 (w.heap.size + 1) 24 [.int .i64 0, .int .i64 0, .int .i64 0] := ObjAt.below (H9_want.out) hb10
      have o10_x : ObjAt w10 (w3.heap.size) 24 [.int .i64 0, .int .i64 0, .int .i64 0] := ObjAt.below (H9_x.out) hb10
      clear q9_r_0 q9_r_1 q9_r_2 H9_r q9_want_0 f9_want_0 q9_want_1 f9_want_1 q9_want_2 f9_want_2 H9_want q9_x_0 f9_x_0 q9_x_1 f9_x_1 q9_x_2 f9_x_2 H9_x
      have q10_r_0 := o10_r.cell (i := 0) rfl
      have q10_r_1 := o10_r.cell (i := 1) rfl
      have q10_r_2 := o10_r.cell (i := 2) rfl
      have l10_r := o10_r.lt
      have H10_r := hide o10_r
      clear o10_r
      have q10_want_0 := o10_want.cell (i := 0) rfl
      have f10_want_0 := o10_want.free 0
      have q10_want_1 := o10_want.cell (i := 1) rfl
      have f10_want_1 := o10_want.free 1
      have q10_want_2 := o10_want.cell (i := 2) rfl
      have f10_want_2 := o10_want.free 2
      have l10_want := o10_want.lt
      have H10_want := hide o10_want
      clear o10_want
      have q10_x_0 := o10_x.cell (i := 0) rfl
      have f10_x_0 := o10_x.free 0
      have q10_x_1 := o10_x.cell (i := 1) rfl
      have f10_x_1 := o10_x.free 1
      have q10_x_2 := o10_x.cell (i := 2) rfl
      have f10_x_2 := o10_x.free 2
      have l10_x := o10_x.lt
      have H10_x := hide o10_x
      clear o10_x
      have hy10 : w.heap.size ≤ w10.heap.size := hB10.size
      clear hb10
      go_wp2_with fail
      refine (error_any c c _ (hE.below (B := w.heap.size) (by go_grown) hE.pos)).mono ?_
      rintro e w11 ⟨rfl, hb11⟩
      have hB11 : Below w.heap.size w w11 := by
        refine Below.trans ?_ (Below.mono hb11 ?_)
        · go_grown
        · first | omega | (simp; done) | (simp; omega)
      have o11_r : ObjAt w11 (w.heap.size) 24 [.int .i64 e, .int .i64 k, .int .i64 o] := ObjAt.below (H10_r.out) hb11
      have o11_want : ObjAt w11 (w.heap.size + 1) 24 [.int .i64 0, .int .i64 0, .int .i64 0] := ObjAt.below (H10_want.out) hb11
      have o11_x : ObjAt w11 (w3.heap.size) 24 [.int .i64 0, .int .i64 0, .int .i64 0] := ObjAt.below (H10_x.out) hb11
      clear q10_r_0 q10_r_1 q10_r_2 H10_r q10_want_0 f10_want_0 q10_want_1 f10_want_1 q10_want_2 f10_want_2 H10_want q10_x_0 f10_x_0 q10_x_1 f10_x_1 q10_x_2 f10_x_2 H10_x
      have q11_r_0 := o11_r.cell (i := 0) rfl
      have q11_r_1 := o11_r.cell (i := 1) rfl
      have q11_r_2 := o11_r.cell (i := 2) rfl
      have l11_r := o11_r.lt
      have H11_r := hide o11_r
      clear o11_r
      have q11_want_0 := o11_want.cell (i := 0) rfl
      have f11_want_0 := o11_want.free 0
      have q11_want_1 := o11_want.cell (i := 1) rfl
      have f11_want_1 := o11_want.free 1
      have q11_want_2 := o11_want.cell (i := 2) rfl
      have f11_want_2 := o11_want.free 2
      have l11_want := o11_want.lt
      have H11_want := hide o11_want
      clear o11_want
      have q11_x_0 := o11_x.cell (i := 0) rfl
      have f11_x_0 := o11_x.free 0
      have q11_x_1 := o11_x.cell (i := 1) rfl
      have f11_x_1 := o11_x.free 1
      have q11_x_2 := o11_x.cell (i := 2) rfl
      have f11_x_2 := o11_x.free 2
      have l11_x := o11_x.lt
      have H11_x := hide o11_x
      clear o11_x
      have hy11 : w.heap.size ≤ w11.heap.size := hB11.size
      clear hb11
      go_wp2
      go_ret
      exact ⟨rfl, by go_grown⟩
end Go.Proofs.YtecdkdjenkgbfaaDoor
