/- The walk of JudgeTells. -/
import Derived.Test.YtmbklchoplgdlaaDoorRAnswer
import Derived.Test.YtmbklchoplgdlaaDoorErr
import Derived.Test.YtmbklchoplgdlaaDoorObj4
namespace Go.Proofs.YtmbklchoplgdlaaDoor
open Go.RowKit

set_option maxRecDepth 100000 in
set_option maxHeartbeats 8000000 in
theorem walkJudgeTells (w : World) (e k o : Int) (_w1 : (Lit.int .i64 e).wf = true) (_w2 : (Lit.int .i64 k).wf = true) (_w3 : (Lit.int .i64 o).wf = true) (a t0 t1 t2 t3 u0 u1 u2 u3 : Int) (s : ByteArray) (hsz : s.size ≤ maxLen) (wt : Int) (_w4 : (Lit.int .i64 wt).wf = true) (now : Int) (_w5 : (Lit.int .i64 now).wf = true) (li : Int) (_w6 : (Lit.int .i64 li).wf = true) (hE : ErrT w) :
    Calls Tryd.prog 9 #[.agg #[.int .i64 e, .int .i64 k, .int .i64 o], .agg #[.int .i64 a, .int .i64 t0, .int .i64 t1, .int .i64 t2, .int .i64 t3, .int .i64 u0, .int .i64 u1, .int .i64 u2, .int .i64 u3, .string s], .int .i64 wt, .int .i64 now, .int .i64 li] w fun r w' => r = .returned (.bool true) ∧ Below w.heap.size w w' := by
  clear _w1 _w2 _w3 _w4 _w5 _w6
  unfold maxLen at hsz
  obtain ⟨n, b, c, han⟩ : ∃ n b c, ansN e k o a t0 t1 t2 t3 u0 u1 u2 u3 s wt now li = (n, b, c) := ⟨_, _, _, rfl⟩
  have AN := hide (fun W => judgeAnswer (by omega) han W)
  have RA := hide (fun W => rAnswer (by omega) han W)
  obtain ⟨rc, hrc⟩ : ∃ c, ringE e k o = c := ⟨_, rfl⟩
  have RR := hide (fun W => rRing_eq hrc W)
  obtain ⟨vn, hn⟩ : ∃ v, tmB now = v := ⟨_, rfl⟩
  have TN := hide (fun W => rTime_eq hn W)
  clear han
  by_cases h0 : rc = 0
  · subst h0
    cases vn
    · have CO : Hid (∀ W, Calls Tryd.prog 18 #[.agg #[.int .i64 e, .int .i64 k, .int .i64 o], .agg #[.int .i64 u0, .int .i64 u1, .int .i64 u2, .int .i64 u3], .int .i64 now] W fun r w' => r = .returned (.tuple #[.bool false, .iface 82 (.int .i64 1)]) ∧ Below W.heap.size W w') := judgeOld_eq (c := 1) (by unfold oldN; rw [if_neg (by simp [hrc]), if_pos hn])
      clear hrc hn
      go_enter Tryd.func9, Tryd.ntmps9
      go_wp2_with fail
      refine (RR.out _).mono ?_
      rintro e w1 ⟨rfl, hb1⟩
      have hB1 : Below w.heap.size w w1 := by
        refine Below.trans ?_ (Below.mono hb1 ?_)
        · go_grown
        · first | omega | (simp; done) | (simp; omega)
      have o1_r : ObjAt w1 (w.heap.size) 24 [.int .i64 e, .int .i64 k, .int .i64 o] := ObjAt.below (ObjAt.alloc (objNew (by simp)) _) hb1
      have o1_h : ObjAt w1 (w.heap.size + 1) 71 [.int .i64 a, .int .i64 t0, .int .i64 t1, .int .i64 t2, .int .i64 t3, .int .i64 u0, .int .i64 u1, .int .i64 u2, .int .i64 u3, .string s] := ObjAt.below (objNew (by simp)) hb1
      have q1_r_0 := o1_r.cell (i := 0) rfl
      have q1_r_1 := o1_r.cell (i := 1) rfl
      have q1_r_2 := o1_r.cell (i := 2) rfl
      have l1_r := o1_r.lt
      have H1_r := hide o1_r
      clear o1_r
      have q1_h_0 := o1_h.cell (i := 0) rfl
      have q1_h_1 := o1_h.cell (i := 1) rfl
      have q1_h_2 := o1_h.cell (i := 2) rfl
      have q1_h_3 := o1_h.cell (i := 3) rfl
      have q1_h_4 := o1_h.cell (i := 4) rfl
      have q1_h_5 := o1_h.cell (i := 5) rfl
      have q1_h_6 := o1_h.cell (i := 6) rfl
      have q1_h_7 := o1_h.cell (i := 7) rfl
      have q1_h_8 := o1_h.cell (i := 8) rfl
      have q1_h_9 := o1_h.cell (i := 9) rfl
      have l1_h := o1_h.lt
      have H1_h := hide o1_h
      clear o1_h
      have hy1 : w.heap.size ≤ w1.heap.size := hB1.size
      clear hb1
      go_wp2_with fail
      refine (TN.out _).mono ?_
      rintro e w502 ⟨rfl, rfl⟩
      go_wp2_with fail
      refine (CO.out _).mono ?_
      rintro e w3 ⟨rfl, hb3⟩
      have hB3 : Below w.heap.size w w3 := by
        refine Below.trans ?_ (Below.mono hb3 ?_)
        · go_grown
        · first | omega | (simp; done) | (simp; omega)
      have o3_r : ObjAt w3 (w.heap.size) 24 [.int .i64 e, .int .i64 k, .int .i64 o] := ObjAt.below (H1_r.out) hb3
      have o3_h : ObjAt w3 (w.heap.size + 1) 71 [.int .i64 a, .int .i64 t0, .int .i64 t1, .int .i64 t2, .int .i64 t3, .int .i64 u0, .int .i64 u1, .int .i64 u2, .int .i64 u3, .string s] := ObjAt.below (H1_h.out) hb3
      clear q1_r_0 q1_r_1 q1_r_2 H1_r q1_h_0 q1_h_1 q1_h_2 q1_h_3 q1_h_4 q1_h_5 q1_h_6 q1_h_7 q1_h_8 q1_h_9 H1_h
      have q3_r_0 := o3_r.cell (i := 0) rfl
      have q3_r_1 := o3_r.cell (i := 1) rfl
      have q3_r_2 := o3_r.cell (i := 2) rfl
      have l3_r := o3_r.lt
      have H3_r := hide o3_r
      clear o3_r
      have q3_h_0 := o3_h.cell (i := 0) rfl
      have q3_h_1 := o3_h.cell (i := 1) rfl
      have q3_h_2 := o3_h.cell (i := 2) rfl
      have q3_h_3 := o3_h.cell (i := 3) rfl
      have q3_h_4 := o3_h.cell (i := 4) rfl
      have q3_h_5 := o3_h.cell (i := 5) rfl
      have q3_h_6 := o3_h.cell (i := 6) rfl
      have q3_h_7 := o3_h.cell (i := 7) rfl
      have q3_h_8 := o3_h.cell (i := 8) rfl
      have q3_h_9 := o3_h.cell (i := 9) rfl
      have l3_h := o3_h.lt
      have H3_h := hide o3_h
      clear o3_h
      have hy3 : w.heap.size ≤ w3.heap.size := hB3.size
      clear hb3
      go_wp2_with fail
      refine (error_any 1 1 _ (hE.below (B := w.heap.size) (by go_grown) hE.pos)).mono ?_
      rintro e w4 ⟨rfl, hb4⟩
      have hB4 : Below w.heap.size w w4 := by
        refine Below.trans ?_ (Below.mono hb4 ?_)
        · go_grown
        · first | omega | (simp; done) | (simp; omega)
      have o4_r : ObjAt w4 (w.heap.size) 24 [.int .i64 e, .int .i64 k, .int .i64 o] := ObjAt.below (H3_r.out) hb4
      have o4_h : ObjAt w4 (w.heap.size + 1) 71 [.int .i64 a, .int .i64 t0, .int .i64 t1, .int .i64 t2, .int .i64 t3, .int .i64 u0, .int .i64 u1, .int .i64 u2, .int .i64 u3, .string s] := ObjAt.below (H3_h.out) hb4
      clear q3_r_0 q3_r_1 q3_r_2 H3_r q3_h_0 q3_h_1 q3_h_2 q3_h_3 q3_h_4 q3_h_5 q3_h_6 q3_h_7 q3_h_8 q3_h_9 H3_h
      have q4_r_0 := o4_r.cell (i := 0) rfl
      have q4_r_1 := o4_r.cell (i := 1) rfl
      have q4_r_2 := o4_r.cell (i := 2) rfl
      have l4_r := o4_r.lt
      have H4_r := hide o4_r
      clear o4_r
      have q4_h_0 := o4_h.cell (i := 0) rfl
      have q4_h_1 := o4_h.cell (i := 1) rfl
      have q4_h_2 := o4_h.cell (i := 2) rfl
      have q4_h_3 := o4_h.cell (i := 3) rfl
      have q4_h_4 := o4_h.cell (i := 4) rfl
      have q4_h_5 := o4_h.cell (i := 5) rfl
      have q4_h_6 := o4_h.cell (i := 6) rfl
      have q4_h_7 := o4_h.cell (i := 7) rfl
      have q4_h_8 := o4_h.cell (i := 8) rfl
      have q4_h_9 := o4_h.cell (i := 9) rfl
      have l4_h := o4_h.lt
      have H4_h := hide o4_h
      clear o4_h
      have hy4 : w.heap.size ≤ w4.heap.size := hB4.size
      clear hb4
      go_wp2_with fail
      refine (RA.out _).mono ?_
      rintro e w5 ⟨rfl, hb5⟩
      have hB5 : Below w.heap.size w w5 := by
        refine Below.trans ?_ (Below.mono hb5 ?_)
        · go_grown
        · first | omega | (simp; done) | (simp; omega)
      have o5_r : ObjAt w5 (w.heap.size) 24 [.int .i64 e, .int .i64 k, .int .i64 o] := ObjAt.below (H4_r.out) hb5
      have o5_h : ObjAt w5 (w.heap.size + 1) 71 [.int .i64 a, .int .i64 t0, .int .i64 t1, .int .i64 t2, .int .i64 t3, .int .i64 u0, .int .i64 u1, .int .i64 u2, .int .i64 u3, .string s] := ObjAt.below (H4_h.out) hb5
      clear q4_r_0 q4_r_1 q4_r_2 H4_r q4_h_0 q4_h_1 q4_h_2 q4_h_3 q4_h_4 q4_h_5 q4_h_6 q4_h_7 q4_h_8 q4_h_9 H4_h
      have q5_r_0 := o5_r.cell (i := 0) rfl
      have q5_r_1 := o5_r.cell (i := 1) rfl
      have q5_r_2 := o5_r.cell (i := 2) rfl
      have l5_r := o5_r.lt
      have H5_r := hide o5_r
      clear o5_r
      have q5_h_0 := o5_h.cell (i := 0) rfl
      have q5_h_1 := o5_h.cell (i := 1) rfl
      have q5_h_2 := o5_h.cell (i := 2) rfl
      have q5_h_3 := o5_h.cell (i := 3) rfl
      have q5_h_4 := o5_h.cell (i := 4) rfl
      have q5_h_5 := o5_h.cell (i := 5) rfl
      have q5_h_6 := o5_h.cell (i := 6) rfl
      have q5_h_7 := o5_h.cell (i := 7) rfl
      have q5_h_8 := o5_h.cell (i := 8) rfl
      have q5_h_9 := o5_h.cell (i := 9) rfl
      have l5_h := o5_h.lt
      have H5_h := hide o5_h
      clear o5_h
      have hy5 : w.heap.size ≤ w5.heap.size := hB5.size
      clear hb5
      go_wp2_with fail
      refine (AN.out _).mono ?_
      rintro e w6 ⟨rfl, hb6⟩
      have hB6 : Below w.heap.size w w6 := by
        refine Below.trans ?_ (Below.mono hb6 ?_)
        · go_grown
        · first | omega | (simp; done) | (simp; omega)
      have o6_r : ObjAt w6 (w.heap.size) 24 [.int .i64 e, .int .i64 k, .int .i64 o] := ObjAt.below (H5_r.out) hb6
      have o6_h : ObjAt w6 (w.heap.size + 1) 71 [.int .i64 a, .int .i64 t0, .int .i64 t1, .int .i64 t2, .int .i64 t3, .int .i64 u0, .int .i64 u1, .int .i64 u2, .int .i64 u3, .string s] := ObjAt.below (H5_h.out) hb6
      clear q5_r_0 q5_r_1 q5_r_2 H5_r q5_h_0 q5_h_1 q5_h_2 q5_h_3 q5_h_4 q5_h_5 q5_h_6 q5_h_7 q5_h_8 q5_h_9 H5_h
      have q6_r_0 := o6_r.cell (i := 0) rfl
      have q6_r_1 := o6_r.cell (i := 1) rfl
      have q6_r_2 := o6_r.cell (i := 2) rfl
      have l6_r := o6_r.lt
      have H6_r := hide o6_r
      clear o6_r
      have q6_h_0 := o6_h.cell (i := 0) rfl
      have q6_h_1 := o6_h.cell (i := 1) rfl
      have q6_h_2 := o6_h.cell (i := 2) rfl
      have q6_h_3 := o6_h.cell (i := 3) rfl
      have q6_h_4 := o6_h.cell (i := 4) rfl
      have q6_h_5 := o6_h.cell (i := 5) rfl
      have q6_h_6 := o6_h.cell (i := 6) rfl
      have q6_h_7 := o6_h.cell (i := 7) rfl
      have q6_h_8 := o6_h.cell (i := 8) rfl
      have q6_h_9 := o6_h.cell (i := 9) rfl
      have l6_h := o6_h.lt
      have H6_h := hide o6_h
      clear o6_h
      have hy6 : w.heap.size ≤ w6.heap.size := hB6.size
      clear hb6
      go_wp2_with fail
      refine (error_any c c _ (hE.below (B := w.heap.size) (by go_grown) hE.pos)).mono ?_
      rintro e w7 ⟨rfl, hb7⟩
      have hB7 : Below w.heap.size w w7 := by
        refine Below.trans ?_ (Below.mono hb7 ?_)
        · go_grown
        · first | omega | (simp; done) | (simp; omega)
      have o7_r : ObjAt w7 (w.heap.size) 24 [.int .i64 e, .int .i64 k, .int .i64 o] := ObjAt.below (H6_r.out) hb7
      have o7_h : ObjAt w7 (w.heap.size + 1) 71 [.int .i64 a, .int .i64 t0, .int .i64 t1, .int .i64 t2, .int .i64 t3, .int .i64 u0, .int .i64 u1, .int .i64 u2, .int .i64 u3, .string s] := ObjAt.below (H6_h.out) hb7
      clear q6_r_0 q6_r_1 q6_r_2 H6_r q6_h_0 q6_h_1 q6_h_2 q6_h_3 q6_h_4 q6_h_5 q6_h_6 q6_h_7 q6_h_8 q6_h_9 H6_h
      have q7_r_0 := o7_r.cell (i := 0) rfl
      have q7_r_1 := o7_r.cell (i := 1) rfl
      have q7_r_2 := o7_r.cell (i := 2) rfl
      have l7_r := o7_r.lt
      have H7_r := hide o7_r
      clear o7_r
      have q7_h_0 := o7_h.cell (i := 0) rfl
      have q7_h_1 := o7_h.cell (i := 1) rfl
      have q7_h_2 := o7_h.cell (i := 2) rfl
      have q7_h_3 := o7_h.cell (i := 3) rfl
      have q7_h_4 := o7_h.cell (i := 4) rfl
      have q7_h_5 := o7_h.cell (i := 5) rfl
      have q7_h_6 := o7_h.cell (i := 6) rfl
      have q7_h_7 := o7_h.cell (i := 7) rfl
      have q7_h_8 := o7_h.cell (i := 8) rfl
      have q7_h_9 := o7_h.cell (i := 9) rfl
      have l7_h := o7_h.lt
      have H7_h := hide o7_h
      clear o7_h
      have hy7 : w.heap.size ≤ w7.heap.size := hB7.size
      clear hb7
      go_wp2
      go_ret
      exact ⟨rfl, by go_grown⟩
    · obtain ⟨ov, hov⟩ : ∃ v, oldB e k o u0 u1 u2 u3 now = v := ⟨_, rfl⟩
      have RO := hide (fun W => rOld hov W)
      have CO : Hid (∀ W, Calls Tryd.prog 18 #[.agg #[.int .i64 e, .int .i64 k, .int .i64 o], .agg #[.int .i64 u0, .int .i64 u1, .int .i64 u2, .int .i64 u3], .int .i64 now] W fun r w' => r = .returned (.tuple #[.bool ov, .nilIface]) ∧ Below W.heap.size W w') := judgeOld_eq (c := 0) (by unfold oldN; rw [if_neg (by simp [hrc]), if_neg (by simp [hn]), hov])
      clear hrc hn hov
      go_enter Tryd.func9, Tryd.ntmps9
      go_wp2_with fail
      refine (RR.out _).mono ?_
      rintro e w1 ⟨rfl, hb1⟩
      have hB1 : Below w.heap.size w w1 := by
        refine Below.trans ?_ (Below.mono hb1 ?_)
        · go_grown
        · first | omega | (simp; done) | (simp; omega)
      have o1_r : ObjAt w1 (w.heap.size) 24 [.int .i64 e, .int .i64 k, .int .i64 o] := ObjAt.below (ObjAt.alloc (objNew (by simp)) _) hb1
      have o1_h : ObjAt w1 (w.heap.size + 1) 71 [.int .i64 a, .int .i64 t0, .int .i64 t1, .int .i64 t2, .int .i64 t3, .int .i64 u0, .int .i64 u1, .int .i64 u2, .int .i64 u3, .string s] := ObjAt.below (objNew (by simp)) hb1
      have q1_r_0 := o1_r.cell (i := 0) rfl
      have q1_r_1 := o1_r.cell (i := 1) rfl
      have q1_r_2 := o1_r.cell (i := 2) rfl
      have l1_r := o1_r.lt
      have H1_r := hide o1_r
      clear o1_r
      have q1_h_0 := o1_h.cell (i := 0) rfl
      have q1_h_1 := o1_h.cell (i := 1) rfl
      have q1_h_2 := o1_h.cell (i := 2) rfl
      have q1_h_3 := o1_h.cell (i := 3) rfl
      have q1_h_4 := o1_h.cell (i := 4) rfl
      have q1_h_5 := o1_h.cell (i := 5) rfl
      have q1_h_6 := o1_h.cell (i := 6) rfl
      have q1_h_7 := o1_h.cell (i := 7) rfl
      have q1_h_8 := o1_h.cell (i := 8) rfl
      have q1_h_9 := o1_h.cell (i := 9) rfl
      have l1_h := o1_h.lt
      have H1_h := hide o1_h
      clear o1_h
      have hy1 : w.heap.size ≤ w1.heap.size := hB1.size
      clear hb1
      go_wp2_with fail
      refine (TN.out _).mono ?_
      rintro e w502 ⟨rfl, rfl⟩
      go_wp2_with fail
      refine (RO.out _).mono ?_
      rintro e w3 ⟨rfl, hb3⟩
      have hB3 : Below w.heap.size w w3 := by
        refine Below.trans ?_ (Below.mono hb3 ?_)
        · go_grown
        · first | omega | (simp; done) | (simp; omega)
      have o3_r : ObjAt w3 (w.heap.size) 24 [.int .i64 e, .int .i64 k, .int .i64 o] := ObjAt.below (H1_r.out) hb3
      have o3_h : ObjAt w3 (w.heap.size + 1) 71 [.int .i64 a, .int .i64 t0, .int .i64 t1, .int .i64 t2, .int .i64 t3, .int .i64 u0, .int .i64 u1, .int .i64 u2, .int .i64 u3, .string s] := ObjAt.below (H1_h.out) hb3
      clear q1_r_0 q1_r_1 q1_r_2 H1_r q1_h_0 q1_h_1 q1_h_2 q1_h_3 q1_h_4 q1_h_5 q1_h_6 q1_h_7 q1_h_8 q1_h_9 H1_h
      have q3_r_0 := o3_r.cell (i := 0) rfl
      have q3_r_1 := o3_r.cell (i := 1) rfl
      have q3_r_2 := o3_r.cell (i := 2) rfl
      have l3_r := o3_r.lt
      have H3_r := hide o3_r
      clear o3_r
      have q3_h_0 := o3_h.cell (i := 0) rfl
      have q3_h_1 := o3_h.cell (i := 1) rfl
      have q3_h_2 := o3_h.cell (i := 2) rfl
      have q3_h_3 := o3_h.cell (i := 3) rfl
      have q3_h_4 := o3_h.cell (i := 4) rfl
      have q3_h_5 := o3_h.cell (i := 5) rfl
      have q3_h_6 := o3_h.cell (i := 6) rfl
      have q3_h_7 := o3_h.cell (i := 7) rfl
      have q3_h_8 := o3_h.cell (i := 8) rfl
      have q3_h_9 := o3_h.cell (i := 9) rfl
      have l3_h := o3_h.lt
      have H3_h := hide o3_h
      clear o3_h
      have hy3 : w.heap.size ≤ w3.heap.size := hB3.size
      clear hb3
      go_wp2_with fail
      refine (CO.out _).mono ?_
      rintro e w4 ⟨rfl, hb4⟩
      have hB4 : Below w.heap.size w w4 := by
        refine Below.trans ?_ (Below.mono hb4 ?_)
        · go_grown
        · first | omega | (simp; done) | (simp; omega)
      have o4_r : ObjAt w4 (w.heap.size) 24 [.int .i64 e, .int .i64 k, .int .i64 o] := ObjAt.below (H3_r.out) hb4
      have o4_h : ObjAt w4 (w.heap.size + 1) 71 [.int .i64 a, .int .i64 t0, .int .i64 t1, .int .i64 t2, .int .i64 t3, .int .i64 u0, .int .i64 u1, .int .i64 u2, .int .i64 u3, .string s] := ObjAt.below (H3_h.out) hb4
      clear q3_r_0 q3_r_1 q3_r_2 H3_r q3_h_0 q3_h_1 q3_h_2 q3_h_3 q3_h_4 q3_h_5 q3_h_6 q3_h_7 q3_h_8 q3_h_9 H3_h
      have q4_r_0 := o4_r.cell (i := 0) rfl
      have q4_r_1 := o4_r.cell (i := 1) rfl
      have q4_r_2 := o4_r.cell (i := 2) rfl
      have l4_r := o4_r.lt
      have H4_r := hide o4_r
      clear o4_r
      have q4_h_0 := o4_h.cell (i := 0) rfl
      have q4_h_1 := o4_h.cell (i := 1) rfl
      have q4_h_2 := o4_h.cell (i := 2) rfl
      have q4_h_3 := o4_h.cell (i := 3) rfl
      have q4_h_4 := o4_h.cell (i := 4) rfl
      have q4_h_5 := o4_h.cell (i := 5) rfl
      have q4_h_6 := o4_h.cell (i := 6) rfl
      have q4_h_7 := o4_h.cell (i := 7) rfl
      have q4_h_8 := o4_h.cell (i := 8) rfl
      have q4_h_9 := o4_h.cell (i := 9) rfl
      have l4_h := o4_h.lt
      have H4_h := hide o4_h
      clear o4_h
      have hy4 : w.heap.size ≤ w4.heap.size := hB4.size
      clear hb4
      go_wp2_with fail
      refine (error_any 0 0 _ (hE.below (B := w.heap.size) (by go_grown) hE.pos)).mono ?_
      rintro e w5 ⟨rfl, hb5⟩
      have hB5 : Below w.heap.size w w5 := by
        refine Below.trans ?_ (Below.mono hb5 ?_)
        · go_grown
        · first | omega | (simp; done) | (simp; omega)
      have o5_r : ObjAt w5 (w.heap.size) 24 [.int .i64 e, .int .i64 k, .int .i64 o] := ObjAt.below (H4_r.out) hb5
      have o5_h : ObjAt w5 (w.heap.size + 1) 71 [.int .i64 a, .int .i64 t0, .int .i64 t1, .int .i64 t2, .int .i64 t3, .int .i64 u0, .int .i64 u1, .int .i64 u2, .int .i64 u3, .string s] := ObjAt.below (H4_h.out) hb5
      clear q4_r_0 q4_r_1 q4_r_2 H4_r q4_h_0 q4_h_1 q4_h_2 q4_h_3 q4_h_4 q4_h_5 q4_h_6 q4_h_7 q4_h_8 q4_h_9 H4_h
      have q5_r_0 := o5_r.cell (i := 0) rfl
      have q5_r_1 := o5_r.cell (i := 1) rfl
      have q5_r_2 := o5_r.cell (i := 2) rfl
      have l5_r := o5_r.lt
      have H5_r := hide o5_r
      clear o5_r
      have q5_h_0 := o5_h.cell (i := 0) rfl
      have q5_h_1 := o5_h.cell (i := 1) rfl
      have q5_h_2 := o5_h.cell (i := 2) rfl
      have q5_h_3 := o5_h.cell (i := 3) rfl
      have q5_h_4 := o5_h.cell (i := 4) rfl
      have q5_h_5 := o5_h.cell (i := 5) rfl
      have q5_h_6 := o5_h.cell (i := 6) rfl
      have q5_h_7 := o5_h.cell (i := 7) rfl
      have q5_h_8 := o5_h.cell (i := 8) rfl
      have q5_h_9 := o5_h.cell (i := 9) rfl
      have l5_h := o5_h.lt
      have H5_h := hide o5_h
      clear o5_h
      have hy5 : w.heap.size ≤ w5.heap.size := hB5.size
      clear hb5
      go_wp2_with fail
      refine (RA.out _).mono ?_
      rintro e w6 ⟨rfl, hb6⟩
      have hB6 : Below w.heap.size w w6 := by
        refine Below.trans ?_ (Below.mono hb6 ?_)
        · go_grown
        · first | omega | (simp; done) | (simp; omega)
      have o6_r : ObjAt w6 (w.heap.size) 24 [.int .i64 e, .int .i64 k, .int .i64 o] := ObjAt.below (H5_r.out) hb6
      have o6_h : ObjAt w6 (w.heap.size + 1) 71 [.int .i64 a, .int .i64 t0, .int .i64 t1, .int .i64 t2, .int .i64 t3, .int .i64 u0, .int .i64 u1, .int .i64 u2, .int .i64 u3, .string s] := ObjAt.below (H5_h.out) hb6
      clear q5_r_0 q5_r_1 q5_r_2 H5_r q5_h_0 q5_h_1 q5_h_2 q5_h_3 q5_h_4 q5_h_5 q5_h_6 q5_h_7 q5_h_8 q5_h_9 H5_h
      have q6_r_0 := o6_r.cell (i := 0) rfl
      have q6_r_1 := o6_r.cell (i := 1) rfl
      have q6_r_2 := o6_r.cell (i := 2) rfl
      have l6_r := o6_r.lt
      have H6_r := hide o6_r
      clear o6_r
      have q6_h_0 := o6_h.cell (i := 0) rfl
      have q6_h_1 := o6_h.cell (i := 1) rfl
      have q6_h_2 := o6_h.cell (i := 2) rfl
      have q6_h_3 := o6_h.cell (i := 3) rfl
      have q6_h_4 := o6_h.cell (i := 4) rfl
      have q6_h_5 := o6_h.cell (i := 5) rfl
      have q6_h_6 := o6_h.cell (i := 6) rfl
      have q6_h_7 := o6_h.cell (i := 7) rfl
      have q6_h_8 := o6_h.cell (i := 8) rfl
      have q6_h_9 := o6_h.cell (i := 9) rfl
      have l6_h := o6_h.lt
      have H6_h := hide o6_h
      clear o6_h
      have hy6 : w.heap.size ≤ w6.heap.size := hB6.size
      clear hb6
      go_wp2_with fail
      refine (AN.out _).mono ?_
      rintro e w7 ⟨rfl, hb7⟩
      have hB7 : Below w.heap.size w w7 := by
        refine Below.trans ?_ (Below.mono hb7 ?_)
        · go_grown
        · first | omega | (simp; done) | (simp; omega)
      have o7_r : ObjAt w7 (w.heap.size) 24 [.int .i64 e, .int .i64 k, .int .i64 o] := ObjAt.below (H6_r.out) hb7
      have o7_h : ObjAt w7 (w.heap.size + 1) 71 [.int .i64 a, .int .i64 t0, .int .i64 t1, .int .i64 t2, .int .i64 t3, .int .i64 u0, .int .i64 u1, .int .i64 u2, .int .i64 u3, .string s] := ObjAt.below (H6_h.out) hb7
      clear q6_r_0 q6_r_1 q6_r_2 H6_r q6_h_0 q6_h_1 q6_h_2 q6_h_3 q6_h_4 q6_h_5 q6_h_6 q6_h_7 q6_h_8 q6_h_9 H6_h
      have q7_r_0 := o7_r.cell (i := 0) rfl
      have q7_r_1 := o7_r.cell (i := 1) rfl
      have q7_r_2 := o7_r.cell (i := 2) rfl
      have l7_r := o7_r.lt
      have H7_r := hide o7_r
      clear o7_r
      have q7_h_0 := o7_h.cell (i := 0) rfl
      have q7_h_1 := o7_h.cell (i := 1) rfl
      have q7_h_2 := o7_h.cell (i := 2) rfl
      have q7_h_3 := o7_h.cell (i := 3) rfl
      have q7_h_4 := o7_h.cell (i := 4) rfl
      have q7_h_5 := o7_h.cell (i := 5) rfl
      have q7_h_6 := o7_h.cell (i := 6) rfl
      have q7_h_7 := o7_h.cell (i := 7) rfl
      have q7_h_8 := o7_h.cell (i := 8) rfl
      have q7_h_9 := o7_h.cell (i := 9) rfl
      have l7_h := o7_h.lt
      have H7_h := hide o7_h
      clear o7_h
      have hy7 : w.heap.size ≤ w7.heap.size := hB7.size
      clear hb7
      go_wp2_with fail
      refine (error_any c c _ (hE.below (B := w.heap.size) (by go_grown) hE.pos)).mono ?_
      rintro e w8 ⟨rfl, hb8⟩
      have hB8 : Below w.heap.size w w8 := by
        refine Below.trans ?_ (Below.mono hb8 ?_)
        · go_grown
        · first | omega | (simp; done) | (simp; omega)
      have o8_r : ObjAt w8 (w.heap.size) 24 [.int .i64 e, .int .i64 k, .int .i64 o] := ObjAt.below (H7_r.out) hb8
      have o8_h : ObjAt w8 (w.heap.size + 1) 71 [.int .i64 a, .int .i64 t0, .int .i64 t1, .int .i64 t2, .int .i64 t3, .int .i64 u0, .int .i64 u1, .int .i64 u2, .int .i64 u3, .string s] := ObjAt.below (H7_h.out) hb8
      clear q7_r_0 q7_r_1 q7_r_2 H7_r q7_h_0 q7_h_1 q7_h_2 q7_h_3 q7_h_4 q7_h_5 q7_h_6 q7_h_7 q7_h_8 q7_h_9 H7_h
      have q8_r_0 := o8_r.cell (i := 0) rfl
      have q8_r_1 := o8_r.cell (i := 1) rfl
      have q8_r_2 := o8_r.cell (i := 2) rfl
      have l8_r := o8_r.lt
      have H8_r := hide o8_r
      clear o8_r
      have q8_h_0 := o8_h.cell (i := 0) rfl
      have q8_h_1 := o8_h.cell (i := 1) rfl
      have q8_h_2 := o8_h.cell (i := 2) rfl
      have q8_h_3 := o8_h.cell (i := 3) rfl
      have q8_h_4 := o8_h.cell (i := 4) rfl
      have q8_h_5 := o8_h.cell (i := 5) rfl
      have q8_h_6 := o8_h.cell (i := 6) rfl
      have q8_h_7 := o8_h.cell (i := 7) rfl
      have q8_h_8 := o8_h.cell (i := 8) rfl
      have q8_h_9 := o8_h.cell (i := 9) rfl
      have l8_h := o8_h.lt
      have H8_h := hide o8_h
      clear o8_h
      have hy8 : w.heap.size ≤ w8.heap.size := hB8.size
      clear hb8
      go_wp2
      go_ret
      exact ⟨rfl, by go_grown⟩
  · have t0' : (rc == 0) = false := beq_eq_false_iff_ne.2 h0
    have CO := hide (fun W => judgeOld_eq (te := u0) (tn := u1) (tu := u2) (tt := u3) (now := now) (v := false) (c := rc) (by unfold oldN; rw [if_pos (by rw [hrc]; exact h0), hrc]) W)
    clear hrc hn h0
    go_enter Tryd.func9, Tryd.ntmps9
    go_wp2_with fail
    refine (RR.out _).mono ?_
    rintro e w1 ⟨rfl, hb1⟩
    have hB1 : Below w.heap.size w w1 := by
      refine Below.trans ?_ (Below.mono hb1 ?_)
      · go_grown
      · first | omega | (simp; done) | (simp; omega)
    have o1_r : ObjAt w1 (w.heap.size) 24 [.int .i64 e, .int .i64 k, .int .i64 o] := ObjAt.below (ObjAt.alloc (objNew (by simp)) _) hb1
    have o1_h : ObjAt w1 (w.heap.size + 1) 71 [.int .i64 a, .int .i64 t0, .int .i64 t1, .int .i64 t2, .int .i64 t3, .int .i64 u0, .int .i64 u1, .int .i64 u2, .int .i64 u3, .string s] := ObjAt.below (objNew (by simp)) hb1
    have q1_r_0 := o1_r.cell (i := 0) rfl
    have q1_r_1 := o1_r.cell (i := 1) rfl
    have q1_r_2 := o1_r.cell (i := 2) rfl
    have l1_r := o1_r.lt
    have H1_r := hide o1_r
    clear o1_r
    have q1_h_0 := o1_h.cell (i := 0) rfl
    have q1_h_1 := o1_h.cell (i := 1) rfl
    have q1_h_2 := o1_h.cell (i := 2) rfl
    have q1_h_3 := o1_h.cell (i := 3) rfl
    have q1_h_4 := o1_h.cell (i := 4) rfl
    have q1_h_5 := o1_h.cell (i := 5) rfl
    have q1_h_6 := o1_h.cell (i := 6) rfl
    have q1_h_7 := o1_h.cell (i := 7) rfl
    have q1_h_8 := o1_h.cell (i := 8) rfl
    have q1_h_9 := o1_h.cell (i := 9) rfl
    have l1_h := o1_h.lt
    have H1_h := hide o1_h
    clear o1_h
    have hy1 : w.heap.size ≤ w1.heap.size := hB1.size
    clear hb1
    go_wp2_with fail
    refine (TN.out _).mono ?_
    rintro e w502 ⟨rfl, rfl⟩
    go_wp2_with fail
    refine (CO.out _).mono ?_
    rintro e w3 ⟨rfl, hb3⟩
    have hB3 : Below w.heap.size w w3 := by
      refine Below.trans ?_ (Below.mono hb3 ?_)
      · go_grown
      · first | omega | (simp; done) | (simp; omega)
    have o3_r : ObjAt w3 (w.heap.size) 24 [.int .i64 e, .int .i64 k, .int .i64 o] := ObjAt.below (H1_r.out) hb3
    have o3_h : ObjAt w3 (w.heap.size + 1) 71 [.int .i64 a, .int .i64 t0, .int .i64 t1, .int .i64 t2, .int .i64 t3, .int .i64 u0, .int .i64 u1, .int .i64 u2, .int .i64 u3, .string s] := ObjAt.below (H1_h.out) hb3
    clear q1_r_0 q1_r_1 q1_r_2 H1_r q1_h_0 q1_h_1 q1_h_2 q1_h_3 q1_h_4 q1_h_5 q1_h_6 q1_h_7 q1_h_8 q1_h_9 H1_h
    have q3_r_0 := o3_r.cell (i := 0) rfl
    have q3_r_1 := o3_r.cell (i := 1) rfl
    have q3_r_2 := o3_r.cell (i := 2) rfl
    have l3_r := o3_r.lt
    have H3_r := hide o3_r
    clear o3_r
    have q3_h_0 := o3_h.cell (i := 0) rfl
    have q3_h_1 := o3_h.cell (i := 1) rfl
    have q3_h_2 := o3_h.cell (i := 2) rfl
    have q3_h_3 := o3_h.cell (i := 3) rfl
    have q3_h_4 := o3_h.cell (i := 4) rfl
    have q3_h_5 := o3_h.cell (i := 5) rfl
    have q3_h_6 := o3_h.cell (i := 6) rfl
    have q3_h_7 := o3_h.cell (i := 7) rfl
    have q3_h_8 := o3_h.cell (i := 8) rfl
    have q3_h_9 := o3_h.cell (i := 9) rfl
    have l3_h := o3_h.lt
    have H3_h := hide o3_h
    clear o3_h
    have hy3 : w.heap.size ≤ w3.heap.size := hB3.size
    clear hb3
    go_wp2_with fail
    refine (error_any rc rc _ (hE.below (B := w.heap.size) (by go_grown) hE.pos)).mono ?_
    rintro e w4 ⟨rfl, hb4⟩
    have hB4 : Below w.heap.size w w4 := by
      refine Below.trans ?_ (Below.mono hb4 ?_)
      · go_grown
      · first | omega | (simp; done) | (simp; omega)
    have o4_r : ObjAt w4 (w.heap.size) 24 [.int .i64 e, .int .i64 k, .int .i64 o] := ObjAt.below (H3_r.out) hb4
    have o4_h : ObjAt w4 (w.heap.size + 1) 71 [.int .i64 a, .int .i64 t0, .int .i64 t1, .int .i64 t2, .int .i64 t3, .int .i64 u0, .int .i64 u1, .int .i64 u2, .int .i64 u3, .string s] := ObjAt.below (H3_h.out) hb4
    clear q3_r_0 q3_r_1 q3_r_2 H3_r q3_h_0 q3_h_1 q3_h_2 q3_h_3 q3_h_4 q3_h_5 q3_h_6 q3_h_7 q3_h_8 q3_h_9 H3_h
    have q4_r_0 := o4_r.cell (i := 0) rfl
    have q4_r_1 := o4_r.cell (i := 1) rfl
    have q4_r_2 := o4_r.cell (i := 2) rfl
    have l4_r := o4_r.lt
    have H4_r := hide o4_r
    clear o4_r
    have q4_h_0 := o4_h.cell (i := 0) rfl
    have q4_h_1 := o4_h.cell (i := 1) rfl
    have q4_h_2 := o4_h.cell (i := 2) rfl
    have q4_h_3 := o4_h.cell (i := 3) rfl
    have q4_h_4 := o4_h.cell (i := 4) rfl
    have q4_h_5 := o4_h.cell (i := 5) rfl
    have q4_h_6 := o4_h.cell (i := 6) rfl
    have q4_h_7 := o4_h.cell (i := 7) rfl
    have q4_h_8 := o4_h.cell (i := 8) rfl
    have q4_h_9 := o4_h.cell (i := 9) rfl
    have l4_h := o4_h.lt
    have H4_h := hide o4_h
    clear o4_h
    have hy4 : w.heap.size ≤ w4.heap.size := hB4.size
    clear hb4
    go_wp2_with fail
    refine (RA.out _).mono ?_
    rintro e w5 ⟨rfl, hb5⟩
    have hB5 : Below w.heap.size w w5 := by
      refine Below.trans ?_ (Below.mono hb5 ?_)
      · go_grown
      · first | omega | (simp; done) | (simp; omega)
    have o5_r : ObjAt w5 (w.heap.size) 24 [.int .i64 e, .int .i64 k, .int .i64 o] := ObjAt.below (H4_r.out) hb5
    have o5_h : ObjAt w5 (w.heap.size + 1) 71 [.int .i64 a, .int .i64 t0, .int .i64 t1, .int .i64 t2, .int .i64 t3, .int .i64 u0, .int .i64 u1, .int .i64 u2, .int .i64 u3, .string s] := ObjAt.below (H4_h.out) hb5
    clear q4_r_0 q4_r_1 q4_r_2 H4_r q4_h_0 q4_h_1 q4_h_2 q4_h_3 q4_h_4 q4_h_5 q4_h_6 q4_h_7 q4_h_8 q4_h_9 H4_h
    have q5_r_0 := o5_r.cell (i := 0) rfl
    have q5_r_1 := o5_r.cell (i := 1) rfl
    have q5_r_2 := o5_r.cell (i := 2) rfl
    have l5_r := o5_r.lt
    have H5_r := hide o5_r
    clear o5_r
    have q5_h_0 := o5_h.cell (i := 0) rfl
    have q5_h_1 := o5_h.cell (i := 1) rfl
    have q5_h_2 := o5_h.cell (i := 2) rfl
    have q5_h_3 := o5_h.cell (i := 3) rfl
    have q5_h_4 := o5_h.cell (i := 4) rfl
    have q5_h_5 := o5_h.cell (i := 5) rfl
    have q5_h_6 := o5_h.cell (i := 6) rfl
    have q5_h_7 := o5_h.cell (i := 7) rfl
    have q5_h_8 := o5_h.cell (i := 8) rfl
    have q5_h_9 := o5_h.cell (i := 9) rfl
    have l5_h := o5_h.lt
    have H5_h := hide o5_h
    clear o5_h
    have hy5 : w.heap.size ≤ w5.heap.size := hB5.size
    clear hb5
    go_wp2_with fail
    refine (AN.out _).mono ?_
    rintro e w6 ⟨rfl, hb6⟩
    have hB6 : Below w.heap.size w w6 := by
      refine Below.trans ?_ (Below.mono hb6 ?_)
      · go_grown
      · first | omega | (simp; done) | (simp; omega)
    have o6_r : ObjAt w6 (w.heap.size) 24 [.int .i64 e, .int .i64 k, .int .i64 o] := ObjAt.below (H5_r.out) hb6
    have o6_h : ObjAt w6 (w.heap.size + 1) 71 [.int .i64 a, .int .i64 t0, .int .i64 t1, .int .i64 t2, .int .i64 t3, .int .i64 u0, .int .i64 u1, .int .i64 u2, .int .i64 u3, .string s] := ObjAt.below (H5_h.out) hb6
    clear q5_r_0 q5_r_1 q5_r_2 H5_r q5_h_0 q5_h_1 q5_h_2 q5_h_3 q5_h_4 q5_h_5 q5_h_6 q5_h_7 q5_h_8 q5_h_9 H5_h
    have q6_r_0 := o6_r.cell (i := 0) rfl
    have q6_r_1 := o6_r.cell (i := 1) rfl
    have q6_r_2 := o6_r.cell (i := 2) rfl
    have l6_r := o6_r.lt
    have H6_r := hide o6_r
    clear o6_r
    have q6_h_0 := o6_h.cell (i := 0) rfl
    have q6_h_1 := o6_h.cell (i := 1) rfl
    have q6_h_2 := o6_h.cell (i := 2) rfl
    have q6_h_3 := o6_h.cell (i := 3) rfl
    have q6_h_4 := o6_h.cell (i := 4) rfl
    have q6_h_5 := o6_h.cell (i := 5) rfl
    have q6_h_6 := o6_h.cell (i := 6) rfl
    have q6_h_7 := o6_h.cell (i := 7) rfl
    have q6_h_8 := o6_h.cell (i := 8) rfl
    have q6_h_9 := o6_h.cell (i := 9) rfl
    have l6_h := o6_h.lt
    have H6_h := hide o6_h
    clear o6_h
    have hy6 : w.heap.size ≤ w6.heap.size := hB6.size
    clear hb6
    go_wp2_with fail
    refine (error_any c c _ (hE.below (B := w.heap.size) (by go_grown) hE.pos)).mono ?_
    rintro e w7 ⟨rfl, hb7⟩
    have hB7 : Below w.heap.size w w7 := by
      refine Below.trans ?_ (Below.mono hb7 ?_)
      · go_grown
      · first | omega | (simp; done) | (simp; omega)
    have o7_r : ObjAt w7 (w.heap.size) 24 [.int .i64 e, .int .i64 k, .int .i64 o] := ObjAt.below (H6_r.out) hb7
    have o7_h : ObjAt w7 (w.heap.size + 1) 71 [.int .i64 a, .int .i64 t0, .int .i64 t1, .int .i64 t2, .int .i64 t3, .int .i64 u0, .int .i64 u1, .int .i64 u2, .int .i64 u3, .string s] := ObjAt.below (H6_h.out) hb7
    clear q6_r_0 q6_r_1 q6_r_2 H6_r q6_h_0 q6_h_1 q6_h_2 q6_h_3 q6_h_4 q6_h_5 q6_h_6 q6_h_7 q6_h_8 q6_h_9 H6_h
    have q7_r_0 := o7_r.cell (i := 0) rfl
    have q7_r_1 := o7_r.cell (i := 1) rfl
    have q7_r_2 := o7_r.cell (i := 2) rfl
    have l7_r := o7_r.lt
    have H7_r := hide o7_r
    clear o7_r
    have q7_h_0 := o7_h.cell (i := 0) rfl
    have q7_h_1 := o7_h.cell (i := 1) rfl
    have q7_h_2 := o7_h.cell (i := 2) rfl
    have q7_h_3 := o7_h.cell (i := 3) rfl
    have q7_h_4 := o7_h.cell (i := 4) rfl
    have q7_h_5 := o7_h.cell (i := 5) rfl
    have q7_h_6 := o7_h.cell (i := 6) rfl
    have q7_h_7 := o7_h.cell (i := 7) rfl
    have q7_h_8 := o7_h.cell (i := 8) rfl
    have q7_h_9 := o7_h.cell (i := 9) rfl
    have l7_h := o7_h.lt
    have H7_h := hide o7_h
    clear o7_h
    have hy7 : w.heap.size ≤ w7.heap.size := hB7.size
    clear hb7
    go_wp2
    go_ret
    exact ⟨rfl, by go_grown⟩
end Go.Proofs.YtmbklchoplgdlaaDoor
