/- foldref1: Bucket, At by contracts. -/
import Derived.Test.YtecdkdjenkgbfaaDoorBucketT
import Derived.Test.YtecdkdjenkgbfaaDoorRTime
import Derived.Test.YtecdkdjenkgbfaaDoorObj4
namespace Go.Proofs.YtecdkdjenkgbfaaDoor
open Go.RowKit

/-- the fault of a bucket -/
def buckE (s r h t : Int) : Int := if buckB s r h t then 0 else 1
set_option maxHeartbeats 4000000 in
theorem rBucket (s r h t : Int) (w : World) : Calls Tryd.prog 30 #[.agg #[.int .i64 s, .int .i64 r, .int .i64 h, .int .i64 t]] w fun e w' => e = .returned (.int .i64 (buckE s r h t)) ∧ Below w.heap.size w w' := by
  have T := hide (fun W => rTime t W)
  cases ht : tmB t
  · rw [show buckE s r h t = 1 by simp [buckE, buckB, ht]]
    rw [ht] at T
    clear ht
    have hc : s < 1 ∨ (1 ≤ s ∧ 100 < s) ∨ ((1 ≤ s ∧ s ≤ 100) ∧ r < 0) ∨ ((1 ≤ s ∧ s ≤ 100) ∧ 0 ≤ r ∧ 100 < r) ∨ ((1 ≤ s ∧ s ≤ 100) ∧ (0 ≤ r ∧ r ≤ 100) ∧ h < 0) ∨ ((1 ≤ s ∧ s ≤ 100) ∧ (0 ≤ r ∧ r ≤ 100) ∧ 0 ≤ h ∧ s < h) ∨ ((1 ≤ s ∧ s ≤ 100) ∧ (0 ≤ r ∧ r ≤ 100) ∧ 0 ≤ h ∧ h ≤ s) := by omega
    rcases hc with g1 | ⟨g1, g2⟩ | ⟨⟨g1, g2⟩, g3⟩ | ⟨⟨g1, g2⟩, g3, g4⟩ | ⟨⟨g1, g2⟩, ⟨g3, g4⟩, g5⟩ | ⟨⟨g1, g2⟩, ⟨g3, g4⟩, g5, g6⟩ | ⟨⟨g1, g2⟩, ⟨g3, g4⟩, g5, g6⟩
    all_goals
      go_enter Tryd.func30, Tryd.ntmps30
      go_wp2_with fail
      refine (T.out _).mono ?_
      rintro e w1 ⟨rfl, rfl⟩
      go_wp2
      go_ret
      exact ⟨rfl, by go_grown⟩
  · rw [ht] at T
    by_cases hg : (1 ≤ s ∧ s ≤ 100) ∧ (0 ≤ r ∧ r ≤ 100) ∧ 0 ≤ h ∧ h ≤ s
    · rw [show buckE s r h t = 0 by simp only [buckE, buckB, ht, Bool.and_true, decide_eq_true_eq]; rw [if_pos (by omega)]]
      obtain ⟨⟨g1, g2⟩, ⟨g3, g4⟩, g5, g6⟩ := hg
      clear ht
      go_enter Tryd.func30, Tryd.ntmps30
      go_wp2_with fail
      refine (T.out _).mono ?_
      rintro e w1 ⟨rfl, rfl⟩
      go_wp2
      go_ret
      exact ⟨rfl, by go_grown⟩
    · rw [show buckE s r h t = 1 by simp only [buckE, buckB, ht, Bool.and_true, decide_eq_true_eq]; rw [if_neg (by omega)]]
      have hc : s < 1 ∨ (1 ≤ s ∧ 100 < s) ∨ ((1 ≤ s ∧ s ≤ 100) ∧ r < 0) ∨ ((1 ≤ s ∧ s ≤ 100) ∧ 0 ≤ r ∧ 100 < r) ∨ ((1 ≤ s ∧ s ≤ 100) ∧ (0 ≤ r ∧ r ≤ 100) ∧ h < 0) ∨ ((1 ≤ s ∧ s ≤ 100) ∧ (0 ≤ r ∧ r ≤ 100) ∧ 0 ≤ h ∧ s < h) := by omega
      clear ht hg
      rcases hc with g1 | ⟨g1, g2⟩ | ⟨⟨g1, g2⟩, g3⟩ | ⟨⟨g1, g2⟩, g3, g4⟩ | ⟨⟨g1, g2⟩, ⟨g3, g4⟩, g5⟩ | ⟨⟨g1, g2⟩, ⟨g3, g4⟩, g5, g6⟩
      all_goals
        go_enter Tryd.func30, Tryd.ntmps30
        go_wp2_with fail
        refine (T.out _).mono ?_
        rintro e w1 ⟨rfl, rfl⟩
        go_wp2
        go_ret
        exact ⟨rfl, by go_grown⟩
theorem bucketCheck_eq (s r h t : Int) (w : World) : Calls Tryd.prog 29 #[.agg #[.int .i64 s, .int .i64 r, .int .i64 h, .int .i64 t]] w fun e w' => e = .returned (errV (buckE s r h t)) ∧ Below w.heap.size w w' := by
  cases hb : buckB s r h t
  · rw [show buckE s r h t = 1 by simp [buckE, hb]]; exact bucketCheck_bad hb w
  · rw [show buckE s r h t = 0 by simp [buckE, hb]]; exact bucketCheck_ok hb w
theorem rBucket_eq {s r h t c : Int} (hc : buckE s r h t = c) (w : World) : Calls Tryd.prog 30 #[.agg #[.int .i64 s, .int .i64 r, .int .i64 h, .int .i64 t]] w fun e w' => e = .returned (.int .i64 c) ∧ Below w.heap.size w w' := by
  have g := rBucket s r h t w
  rwa [hc] at g

theorem rAt_bad {s r h t x c : Int} (hc : buckAtE s r h t x = c) (h0 : c ≠ 0) (w : World) :
    Calls Tryd.prog 31 #[.agg #[.int .i64 s, .int .i64 r, .int .i64 h, .int .i64 t], .int .i64 x] w fun e w' => e = .returned (.tuple #[.agg #[.int .i64 0, .int .i64 0, .int .i64 0, .int .i64 0], .int .i64 c]) ∧ Below w.heap.size w w' := by
  cases hb : buckB s r h t
  · obtain rfl : c = 1 := by rw [← hc]; simp [buckAtE, hb]
    have K := hide (fun W => rBucket_eq (s := s) (r := r) (h := h) (t := t) (c := 1) (by simp [buckE, hb]) W)
    clear hb hc h0
    go_enter Tryd.func31, Tryd.ntmps31
    go_wp2_with fail
    refine (K.out _).mono ?_
    rintro e w1 ⟨rfl, hb1⟩
    have hB1 : Below w.heap.size w w1 := by
      refine Below.trans ?_ (Below.mono hb1 ?_)
      · go_grown
      · first | omega | (simp; done) | (simp; omega)
    have o1_b : ObjAt w1 (w.heap.size) 57 [.int .i64 s, .int .i64 r, .int .i64 h, .int .i64 t] := ObjAt.below (ObjAt.alloc (objNew (by simp)) _) hb1
    have o1_res : ObjAt w1 (w.heap.size + 1) 57 [.int .i64 0, .int .i64 0, .int .i64 0, .int .i64 0] := ObjAt.below (objNew (by simp)) hb1
    have q1_b_0 := o1_b.cell (i := 0) rfl
    have f1_b_0 := o1_b.free 0
    have q1_b_1 := o1_b.cell (i := 1) rfl
    have f1_b_1 := o1_b.free 1
    have q1_b_2 := o1_b.cell (i := 2) rfl
    have f1_b_2 := o1_b.free 2
    have q1_b_3 := o1_b.cell (i := 3) rfl
    have f1_b_3 := o1_b.free 3
    have l1_b := o1_b.lt
    have H1_b := hide o1_b
    clear o1_b
    have q1_res_0 := o1_res.cell (i := 0) rfl
    have f1_res_0 := o1_res.free 0
    have q1_res_1 := o1_res.cell (i := 1) rfl
    have f1_res_1 := o1_res.free 1
    have q1_res_2 := o1_res.cell (i := 2) rfl
    have f1_res_2 := o1_res.free 2
    have q1_res_3 := o1_res.cell (i := 3) rfl
    have f1_res_3 := o1_res.free 3
    have l1_res := o1_res.lt
    have H1_res := hide o1_res
    clear o1_res
    have hy1 : w.heap.size ≤ w1.heap.size := hB1.size
    clear hb1
    go_wp2
    exact bodyPost_ret (v := .tuple #[.agg #[.int .i64 0, .int .i64 0, .int .i64 0, .int .i64 0], .int .i64 1]) (by simp [results, Tryd.results31, go_sem, *]) rfl ⟨rfl, by go_grown⟩
  · have K := hide (fun W => rBucket_eq (s := s) (r := r) (h := h) (t := t) (c := 0) (by simp [buckE, hb]) W)
    obtain ⟨⟨g1, g2, g3, g4, g5, g6⟩, g7, g8⟩ := buckB_ok hb
    cases hx : tmB x
    · obtain rfl : c = 1 := by rw [← hc]; simp [buckAtE, hb, hx]
      have T := hide (fun W => rTime_eq hx W)
      clear hb hx hc h0
      go_enter Tryd.func31, Tryd.ntmps31
      go_wp2_with fail
      refine (K.out _).mono ?_
      rintro e w1 ⟨rfl, hb1⟩
      have hB1 : Below w.heap.size w w1 := by
        refine Below.trans ?_ (Below.mono hb1 ?_)
        · go_grown
        · first | omega | (simp; done) | (simp; omega)
      have o1_b : ObjAt w1 (w.heap.size) 57 [.int .i64 s, .int .i64 r, .int .i64 h, .int .i64 t] := ObjAt.below (ObjAt.alloc (objNew (by simp)) _) hb1
      have o1_res : ObjAt w1 (w.heap.size + 1) 57 [.int .i64 0, .int .i64 0, .int .i64 0, .int .i64 0] := ObjAt.below (objNew (by simp)) hb1
      have q1_b_0 := o1_b.cell (i := 0) rfl
      have f1_b_0 := o1_b.free 0
      have q1_b_1 := o1_b.cell (i := 1) rfl
      have f1_b_1 := o1_b.free 1
      have q1_b_2 := o1_b.cell (i := 2) rfl
      have f1_b_2 := o1_b.free 2
      have q1_b_3 := o1_b.cell (i := 3) rfl
      have f1_b_3 := o1_b.free 3
      have l1_b := o1_b.lt
      have H1_b := hide o1_b
      clear o1_b
      have q1_res_0 := o1_res.cell (i := 0) rfl
      have f1_res_0 := o1_res.free 0
      have q1_res_1 := o1_res.cell (i := 1) rfl
      have f1_res_1 := o1_res.free 1
      have q1_res_2 := o1_res.cell (i := 2) rfl
      have f1_res_2 := o1_res.free 2
      have q1_res_3 := o1_res.cell (i := 3) rfl
      have f1_res_3 := o1_res.free 3
      have l1_res := o1_res.lt
      have H1_res := hide o1_res
      clear o1_res
      have hy1 : w.heap.size ≤ w1.heap.size := hB1.size
      clear hb1
      go_wp2_with fail
      refine (T.out _).mono ?_
      rintro e w502 ⟨rfl, rfl⟩
      go_wp2
      exact bodyPost_ret (v := .tuple #[.agg #[.int .i64 0, .int .i64 0, .int .i64 0, .int .i64 0], .int .i64 1]) (by simp [results, Tryd.results31, go_sem, *]) rfl ⟨rfl, by go_grown⟩
    · have T := hide (fun W => rTime_eq hx W)
      by_cases hlt : x < t
      · obtain rfl : c = 9 := by rw [← hc]; simp [buckAtE, hb, hx, hlt]
        clear hb hx hc h0
        go_enter Tryd.func31, Tryd.ntmps31
        go_wp2_with fail
        refine (K.out _).mono ?_
        rintro e w1 ⟨rfl, hb1⟩
        have hB1 : Below w.heap.size w w1 := by
          refine Below.trans ?_ (Below.mono hb1 ?_)
          · go_grown
          · first | omega | (simp; done) | (simp; omega)
        have o1_b : ObjAt w1 (w.heap.size) 57 [.int .i64 s, .int .i64 r, .int .i64 h, .int .i64 t] := ObjAt.below (ObjAt.alloc (objNew (by simp)) _) hb1
        have o1_res : ObjAt w1 (w.heap.size + 1) 57 [.int .i64 0, .int .i64 0, .int .i64 0, .int .i64 0] := ObjAt.below (objNew (by simp)) hb1
        have q1_b_0 := o1_b.cell (i := 0) rfl
        have f1_b_0 := o1_b.free 0
        have q1_b_1 := o1_b.cell (i := 1) rfl
        have f1_b_1 := o1_b.free 1
        have q1_b_2 := o1_b.cell (i := 2) rfl
        have f1_b_2 := o1_b.free 2
        have q1_b_3 := o1_b.cell (i := 3) rfl
        have f1_b_3 := o1_b.free 3
        have l1_b := o1_b.lt
        have H1_b := hide o1_b
        clear o1_b
        have q1_res_0 := o1_res.cell (i := 0) rfl
        have f1_res_0 := o1_res.free 0
        have q1_res_1 := o1_res.cell (i := 1) rfl
        have f1_res_1 := o1_res.free 1
        have q1_res_2 := o1_res.cell (i := 2) rfl
        have f1_res_2 := o1_res.free 2
        have q1_res_3 := o1_res.cell (i := 3) rfl
        have f1_res_3 := o1_res.free 3
        have l1_res := o1_res.lt
        have H1_res := hide o1_res
        clear o1_res
        have hy1 : w.heap.size ≤ w1.heap.size := hB1.size
        clear hb1
        go_wp2_with fail
        refine (T.out _).mono ?_
        rintro e w502 ⟨rfl, rfl⟩
        go_wp2
        exact bodyPost_ret (v := .tuple #[.agg #[.int .i64 0, .int .i64 0, .int .i64 0, .int .i64 0], .int .i64 9]) (by simp [results, Tryd.results31, go_sem, *]) rfl ⟨rfl, by go_grown⟩
      · exact absurd (by rw [← hc]; simp [buckAtE, hb, hx, hlt]) h0
set_option maxHeartbeats 1000000 in
theorem rAt_ok {s r h t x : Int} (hb : buckB s r h t = true) (hx : tmB x = true) (hxt : t ≤ x) (w : World) :
    Calls Tryd.prog 31 #[.agg #[.int .i64 s, .int .i64 r, .int .i64 h, .int .i64 t], .int .i64 x] w fun e w' => e = .returned (.tuple #[.agg #[.int .i64 s, .int .i64 r, .int .i64 (buckH s r h t x), .int .i64 x], .int .i64 0]) ∧ Below w.heap.size w w' := by
  have K := hide (fun W => rBucket_eq (s := s) (r := r) (h := h) (t := t) (c := 0) (by simp [buckE, hb]) W)
  obtain ⟨⟨g1, g2, g3, g4, g5, g6⟩, g7, g8⟩ := buckB_ok hb
  have T := hide (fun W => rTime_eq hx W)
  obtain ⟨x0, x1⟩ := tmB_true.1 hx
  obtain ⟨y0, y1⟩ := rate_le (r := r) (d := x - t) g3 g4 (by omega) (by omega)
  by_cases hs : s < h + r * (x - t)
  · rw [show buckH s r h t x = s by unfold buckH; omega]
    clear hb hx
    go_enter Tryd.func31, Tryd.ntmps31
    go_wp2_with fail
    refine (K.out _).mono ?_
    rintro e w1 ⟨rfl, hb1⟩
    have hB1 : Below w.heap.size w w1 := by
      refine Below.trans ?_ (Below.mono hb1 ?_)
      · go_grown
      · first | omega | (simp; done) | (simp; omega)
    have o1_b : ObjAt w1 (w.heap.size) 57 [.int .i64 s, .int .i64 r, .int .i64 h, .int .i64 t] := ObjAt.below (ObjAt.alloc (objNew (by simp)) _) hb1
    have o1_res : ObjAt w1 (w.heap.size + 1) 57 [.int .i64 0, .int .i64 0, .int .i64 0, .int .i64 0] := ObjAt.below (objNew (by simp)) hb1
    have q1_b_0 := o1_b.cell (i := 0) rfl
    have f1_b_0 := o1_b.free 0
    have q1_b_1 := o1_b.cell (i := 1) rfl
    have f1_b_1 := o1_b.free 1
    have q1_b_2 := o1_b.cell (i := 2) rfl
    have f1_b_2 := o1_b.free 2
    have q1_b_3 := o1_b.cell (i := 3) rfl
    have f1_b_3 := o1_b.free 3
    have l1_b := o1_b.lt
    have H1_b := hide o1_b
    clear o1_b
    have q1_res_0 := o1_res.cell (i := 0) rfl
    have f1_res_0 := o1_res.free 0
    have q1_res_1 := o1_res.cell (i := 1) rfl
    have f1_res_1 := o1_res.free 1
    have q1_res_2 := o1_res.cell (i := 2) rfl
    have f1_res_2 := o1_res.free 2
    have q1_res_3 := o1_res.cell (i := 3) rfl
    have f1_res_3 := o1_res.free 3
    have l1_res := o1_res.lt
    have H1_res := hide o1_res
    clear o1_res
    have hy1 : w.heap.size ≤ w1.heap.size := hB1.size
    clear hb1
    go_wp2_with fail
    refine (T.out _).mono ?_
    rintro e w502 ⟨rfl, rfl⟩
    go_wp2
    exact bodyPost_ret (v := .tuple #[.agg #[.int .i64 s, .int .i64 r, .int .i64 s, .int .i64 x], .int .i64 0]) (by simp [results, Tryd.results31, go_sem, *]) rfl ⟨rfl, by go_grown⟩
  · rw [show buckH s r h t x = h + r * (x - t) by unfold buckH; omega]
    clear hb hx
    go_enter Tryd.func31, Tryd.ntmps31
    go_wp2_with fail
    refine (K.out _).mono ?_
    rintro e w1 ⟨rfl, hb1⟩
    have hB1 : Below w.heap.size w w1 := by
      refine Below.trans ?_ (Below.mono hb1 ?_)
      · go_grown
      · first | omega | (simp; done) | (simp; omega)
    have o1_b : ObjAt w1 (w.heap.size) 57 [.int .i64 s, .int .i64 r, .int .i64 h, .int .i64 t] := ObjAt.below (ObjAt.alloc (objNew (by simp)) _) hb1
    have o1_res : ObjAt w1 (w.heap.size + 1) 57 [.int .i64 0, .int .i64 0, .int .i64 0, .int .i64 0] := ObjAt.below (objNew (by simp)) hb1
    have q1_b_0 := o1_b.cell (i := 0) rfl
    have f1_b_0 := o1_b.free 0
    have q1_b_1 := o1_b.cell (i := 1) rfl
    have f1_b_1 := o1_b.free 1
    have q1_b_2 := o1_b.cell (i := 2) rfl
    have f1_b_2 := o1_b.free 2
    have q1_b_3 := o1_b.cell (i := 3) rfl
    have f1_b_3 := o1_b.free 3
    have l1_b := o1_b.lt
    have H1_b := hide o1_b
    clear o1_b
    have q1_res_0 := o1_res.cell (i := 0) rfl
    have f1_res_0 := o1_res.free 0
    have q1_res_1 := o1_res.cell (i := 1) rfl
    have f1_res_1 := o1_res.free 1
    have q1_res_2 := o1_res.cell (i := 2) rfl
    have f1_res_2 := o1_res.free 2
    have q1_res_3 := o1_res.cell (i := 3) rfl
    have f1_res_3 := o1_res.free 3
    have l1_res := o1_res.lt
    have H1_res := hide o1_res
    clear o1_res
    have hy1 : w.heap.size ≤ w1.heap.size := hB1.size
    clear hb1
    go_wp2_with fail
    refine (T.out _).mono ?_
    rintro e w502 ⟨rfl, rfl⟩
    go_wp2
    exact bodyPost_ret (v := .tuple #[.agg #[.int .i64 s, .int .i64 r, .int .i64 (h + r * (x - t)), .int .i64 x], .int .i64 0]) (by simp [results, Tryd.results31, go_sem, *]) rfl ⟨rfl, by go_grown⟩
end Go.Proofs.YtecdkdjenkgbfaaDoor
