/- The walk of BucketTells. -/
import Derived.Test.YtecdkdjenkgbfaaDoorRBucket
import Derived.Test.YtecdkdjenkgbfaaDoorErr
import Derived.Deep.RegionHeld3
namespace Go.Proofs.YtecdkdjenkgbfaaDoor
open Go.RowKit

set_option maxRecDepth 100000 in
set_option maxHeartbeats 8000000 in
theorem walkBucketTells (w : World) (s r h t : Int) (_w1 : (Lit.int .i64 s).wf = true) (_w2 : (Lit.int .i64 r).wf = true) (_w3 : (Lit.int .i64 h).wf = true) (_w4 : (Lit.int .i64 t).wf = true) (x : Int) (_w5 : (Lit.int .i64 x).wf = true) (n : Int) (_w6 : (Lit.int .i64 n).wf = true) (hE : ErrT w) :
    Calls Tryd.prog 6 #[.agg #[.int .i64 s, .int .i64 r, .int .i64 h, .int .i64 t], .int .i64 x, .int .i64 n] w fun e w' => e = .returned (.bool true) ∧ Below w.heap.size w w' := by
  clear _w1 _w2 _w3 _w4 _w5 _w6
  obtain ⟨g, hg⟩ : ∃ g, buckE s r h t = g := ⟨_, rfl⟩
  have CK : Hid (∀ W, Calls Tryd.prog 29 #[.agg #[.int .i64 s, .int .i64 r, .int .i64 h, .int .i64 t]] W fun e w' => e = .returned (errV g) ∧ Below W.heap.size W w') := by
    intro W; have k := bucketCheck_eq s r h t W; rwa [hg] at k
  have RB := hide (fun W => rBucket_eq hg W)
  clear hg
  rcases buckTE_cases s r h t x n with ⟨_, e1, e2, e3, ⟨e4, e4'⟩, e5⟩ | hbad
  · obtain ⟨z0, z1, _⟩ := buckH_in e1 e2 e3
    obtain ⟨⟨k1, k2, k3, k4, k5, k6⟩, k7, k8⟩ := buckB_ok e1
    have RA := hide (fun W => rAt_ok e1 e2 e3 W)
    have AT' := hide (fun W => bucketAt_ok e1 e2 e3 W)
    obtain ⟨H, hH⟩ : ∃ H, H = buckH s r h t x := ⟨_, rfl⟩
    have AT : Hid (∀ W, Calls Tryd.prog 32 #[.agg #[.int .i64 s, .int .i64 r, .int .i64 h, .int .i64 t], .int .i64 x] W fun e w' => e = .returned (.tuple #[.agg #[.int .i64 s, .int .i64 r, .int .i64 H, .int .i64 x], .nilIface]) ∧ Below W.heap.size W w') := by intro W; have k := AT'.out W; rw [show min s (h + r * (x - t)) = H from hH.symm] at k; exact k
    rw [← hH] at RA z0 z1
    rw [← hH] at e5
    have TK := hide (fun W => bucketTake_ok e1 e2 e3 ⟨e4, e4'⟩ (by rw [← hH]; exact e5) W)
    rw [← hH] at TK
    clear AT' hH e1 e2
    go_enter Tryd.func6, Tryd.ntmps6
    go_wp2_with fail
    have b0 : ObjAt (w.alloc (.cells #[.int .i64 s, .int .i64 r, .int .i64 h, .int .i64 t] 57)) w.heap.size 57 [.int .i64 s, .int .i64 r, .int .i64 h, .int .i64 t] := ObjAt.new _ _ _
    have hB0 : Below w.heap.size w (w.alloc (.cells #[.int .i64 s, .int .i64 r, .int .i64 h, .int .i64 t] 57)) := (Below.refl _ _).alloc (Nat.le_refl _) _
    generalize w.alloc (.cells #[.int .i64 s, .int .i64 r, .int .i64 h, .int .i64 t] 57) = w0 at b0 hB0 ⊢
    have l0 := b0.lt
    have hE0 := hide (hE.below hB0 hE.pos)
    have q0 := b0.cell (i := 0) rfl
    have q1 := b0.cell (i := 1) rfl
    have q2 := b0.cell (i := 2) rfl
    have q3 := b0.cell (i := 3) rfl
    have HS : Hid (∀ w' : World, Below w0.heap.size w0 w' → w'.cell? ⟨w.heap.size, 0, none⟩ = some (.int .i64 s) ∧ w'.cell? ⟨w.heap.size, 1, none⟩ = some (.int .i64 r) ∧ w'.cell? ⟨w.heap.size, 2, none⟩ = some (.int .i64 h) ∧ w'.cell? ⟨w.heap.size, 3, none⟩ = some (.int .i64 t)) :=
      fun w' hB => ⟨(hB.cell (p := ⟨w.heap.size, 0, none⟩) l0).trans q0, (hB.cell (p := ⟨w.heap.size, 1, none⟩) l0).trans q1, (hB.cell (p := ⟨w.heap.size, 2, none⟩) l0).trans q2, (hB.cell (p := ⟨w.heap.size, 3, none⟩) l0).trans q3⟩
    have B0 := hide b0
    clear b0
    have hrr := Below.refl w0.heap.size w0
    go_region_held3 (fun w' => w'.cell? ⟨w.heap.size, 0, none⟩ = some (.int .i64 s) ∧ w'.cell? ⟨w.heap.size, 1, none⟩ = some (.int .i64 r) ∧ w'.cell? ⟨w.heap.size, 2, none⟩ = some (.int .i64 h) ∧ w'.cell? ⟨w.heap.size, 3, none⟩ = some (.int .i64 t)) (first | exact HS.out _ (by assumption) | (refine HS.out _ ?_; go_grown) | go_keep)
      (first | (go_at_call 29; refine (CK.out _).mono ?_; rintro eA wA ⟨rfl, hbA⟩; have hwA : Below w0.heap.size w0 wA := Below.trans (by go_grown) (Below.mono hbA (by first | omega | (simp; done) | (simp; omega))); have hzA := hwA.size; clear hbA) | (go_at_call 30; refine (RB.out _).mono ?_; rintro eB wB ⟨rfl, hbB⟩; have hwB : Below w0.heap.size w0 wB := Below.trans (by go_grown) (Below.mono hbB (by first | omega | (simp; done) | (simp; omega))); have hzB := hwB.size; clear hbB) | (go_at_call 21; refine (error_any g g _ (hE0.out.below (B := w0.heap.size) (by go_grown) hE0.out.pos)).mono ?_; rintro eC wC ⟨rfl, hbC⟩; have hwC : Below w0.heap.size w0 wC := Below.trans (by go_grown) (Below.mono hbC (by first | omega | (simp; done) | (simp; omega))); have hzC := hwC.size; clear hbC))
    all_goals
      have bC := hide (ObjAt.below B0.out hwC)
      have hBC : Below w.heap.size w wC := hB0.trans (hwC.mono hB0.size)
      have lC := bC.out.lt
      have q0 := bC.out.cell (i := 0) rfl
      have q1 := bC.out.cell (i := 1) rfl
      have q2 := bC.out.cell (i := 2) rfl
      have q3 := bC.out.cell (i := 3) rfl
      have hyC : w.heap.size ≤ wC.heap.size := hBC.size
      clear hwA hwB hwC hzA hzB hzC hrr hB0 l0 HS B0 CK RB
      go_wp2_with fail
      refine (RA.out _).mono ?_
      rintro e w1 ⟨rfl, hb1⟩
      have hB1 : Below w.heap.size w w1 := by
        refine Below.trans ?_ (Below.mono hb1 ?_)
        · go_grown
        · first | omega | (simp; done) | (simp; omega)
      have o1_b : ObjAt w1 (w.heap.size) 57 [.int .i64 s, .int .i64 r, .int .i64 h, .int .i64 t] := ObjAt.below (bC.out) hb1
      clear q0 q1 q2 q3 bC
      have q1_b_0 := o1_b.cell (i := 0) rfl
      have q1_b_1 := o1_b.cell (i := 1) rfl
      have q1_b_2 := o1_b.cell (i := 2) rfl
      have q1_b_3 := o1_b.cell (i := 3) rfl
      have l1_b := o1_b.lt
      have H1_b := hide o1_b
      clear o1_b
      have hy1 : w.heap.size ≤ w1.heap.size := hB1.size
      clear hb1
      go_wp2_with fail
      refine (AT.out _).mono ?_
      rintro e w2 ⟨rfl, hb2⟩
      have hB2 : Below w.heap.size w w2 := by
        refine Below.trans ?_ (Below.mono hb2 ?_)
        · go_grown
        · first | omega | (simp; done) | (simp; omega)
      have o2_b : ObjAt w2 (w.heap.size) 57 [.int .i64 s, .int .i64 r, .int .i64 h, .int .i64 t] := ObjAt.below (ObjAt.alloc (H1_b.out) _) hb2
      have o2_want : ObjAt w2 (w1.heap.size) 57 [.int .i64 s, .int .i64 r, .int .i64 H, .int .i64 x] := ObjAt.below (objNew (by simp)) hb2
      clear q1_b_0 q1_b_1 q1_b_2 q1_b_3 H1_b
      have q2_b_0 := o2_b.cell (i := 0) rfl
      have q2_b_1 := o2_b.cell (i := 1) rfl
      have q2_b_2 := o2_b.cell (i := 2) rfl
      have q2_b_3 := o2_b.cell (i := 3) rfl
      have l2_b := o2_b.lt
      have H2_b := hide o2_b
      clear o2_b
      have q2_want_0 := o2_want.cell (i := 0) rfl
      have f2_want_0 := o2_want.free 0
      have q2_want_1 := o2_want.cell (i := 1) rfl
      have f2_want_1 := o2_want.free 1
      have q2_want_2 := o2_want.cell (i := 2) rfl
      have f2_want_2 := o2_want.free 2
      have q2_want_3 := o2_want.cell (i := 3) rfl
      have f2_want_3 := o2_want.free 3
      have l2_want := o2_want.lt
      have H2_want := hide o2_want
      clear o2_want
      have hy2 : w.heap.size ≤ w2.heap.size := hB2.size
      clear hb2
      go_wp2_with fail
      refine (error_any 0 0 _ (hE.below (B := w.heap.size) (by go_grown) hE.pos)).mono ?_
      rintro e w3 ⟨rfl, hb3⟩
      have hB3 : Below w.heap.size w w3 := by
        refine Below.trans ?_ (Below.mono hb3 ?_)
        · go_grown
        · first | omega | (simp; done) | (simp; omega)
      have o3_b : ObjAt w3 (w.heap.size) 57 [.int .i64 s, .int .i64 r, .int .i64 h, .int .i64 t] := ObjAt.below (ObjAt.alloc (H2_b.out) _) hb3
      have o3_want : ObjAt w3 (w1.heap.size) 57 [.int .i64 s, .int .i64 r, .int .i64 H, .int .i64 x] := ObjAt.below (ObjAt.alloc (H2_want.out) _) hb3
      have o3_x : ObjAt w3 (w2.heap.size) 57 [.int .i64 s, .int .i64 r, .int .i64 H, .int .i64 x] := ObjAt.below (objNew (by simp)) hb3
      clear q2_b_0 q2_b_1 q2_b_2 q2_b_3 H2_b q2_want_0 f2_want_0 q2_want_1 f2_want_1 q2_want_2 f2_want_2 q2_want_3 f2_want_3 H2_want
      have q3_b_0 := o3_b.cell (i := 0) rfl
      have q3_b_1 := o3_b.cell (i := 1) rfl
      have q3_b_2 := o3_b.cell (i := 2) rfl
      have q3_b_3 := o3_b.cell (i := 3) rfl
      have l3_b := o3_b.lt
      have H3_b := hide o3_b
      clear o3_b
      have q3_want_0 := o3_want.cell (i := 0) rfl
      have f3_want_0 := o3_want.free 0
      have q3_want_1 := o3_want.cell (i := 1) rfl
      have f3_want_1 := o3_want.free 1
      have q3_want_2 := o3_want.cell (i := 2) rfl
      have f3_want_2 := o3_want.free 2
      have q3_want_3 := o3_want.cell (i := 3) rfl
      have f3_want_3 := o3_want.free 3
      have l3_want := o3_want.lt
      have H3_want := hide o3_want
      clear o3_want
      have q3_x_0 := o3_x.cell (i := 0) rfl
      have f3_x_0 := o3_x.free 0
      have q3_x_1 := o3_x.cell (i := 1) rfl
      have f3_x_1 := o3_x.free 1
      have q3_x_2 := o3_x.cell (i := 2) rfl
      have f3_x_2 := o3_x.free 2
      have q3_x_3 := o3_x.cell (i := 3) rfl
      have f3_x_3 := o3_x.free 3
      have l3_x := o3_x.lt
      have H3_x := hide o3_x
      clear o3_x
      have hy3 : w.heap.size ≤ w3.heap.size := hB3.size
      clear hb3
      go_wp2_with fail
      refine (TK.out _).mono ?_
      rintro e w4 ⟨rfl, hb4⟩
      have hB4 : Below w.heap.size w w4 := by
        refine Below.trans ?_ (Below.mono hb4 ?_)
        · go_grown
        · first | omega | (simp; done) | (simp; omega)
      have o4_b : ObjAt w4 (w.heap.size) 57 [.int .i64 s, .int .i64 r, .int .i64 h, .int .i64 t] := ObjAt.below (ObjAt.setOther (H3_b.out) (by simp; omega) _) hb4
      have o4_want : ObjAt w4 (w1.heap.size) 57 [.int .i64 s, .int .i64 r, .int .i64 (H - n), .int .i64 x] := ObjAt.below (ObjAt.set (H3_want.out) 2 _) hb4
      have o4_x : ObjAt w4 (w2.heap.size) 57 [.int .i64 s, .int .i64 r, .int .i64 H, .int .i64 x] := ObjAt.below (ObjAt.setOther (H3_x.out) (by simp; omega) _) hb4
      clear q3_b_0 q3_b_1 q3_b_2 q3_b_3 H3_b q3_want_0 f3_want_0 q3_want_1 f3_want_1 q3_want_2 f3_want_2 q3_want_3 f3_want_3 H3_want q3_x_0 f3_x_0 q3_x_1 f3_x_1 q3_x_2 f3_x_2 q3_x_3 f3_x_3 H3_x
      have q4_b_0 := o4_b.cell (i := 0) rfl
      have q4_b_1 := o4_b.cell (i := 1) rfl
      have q4_b_2 := o4_b.cell (i := 2) rfl
      have q4_b_3 := o4_b.cell (i := 3) rfl
      have l4_b := o4_b.lt
      have H4_b := hide o4_b
      clear o4_b
      have q4_want_0 := o4_want.cell (i := 0) rfl
      have f4_want_0 := o4_want.free 0
      have q4_want_1 := o4_want.cell (i := 1) rfl
      have f4_want_1 := o4_want.free 1
      have q4_want_2 := o4_want.cell (i := 2) rfl
      have f4_want_2 := o4_want.free 2
      have q4_want_3 := o4_want.cell (i := 3) rfl
      have f4_want_3 := o4_want.free 3
      have l4_want := o4_want.lt
      have H4_want := hide o4_want
      clear o4_want
      have q4_x_0 := o4_x.cell (i := 0) rfl
      have f4_x_0 := o4_x.free 0
      have q4_x_1 := o4_x.cell (i := 1) rfl
      have f4_x_1 := o4_x.free 1
      have q4_x_2 := o4_x.cell (i := 2) rfl
      have f4_x_2 := o4_x.free 2
      have q4_x_3 := o4_x.cell (i := 3) rfl
      have f4_x_3 := o4_x.free 3
      have l4_x := o4_x.lt
      have H4_x := hide o4_x
      clear o4_x
      have hy4 : w.heap.size ≤ w4.heap.size := hB4.size
      clear hb4
      go_wp2_with fail
      refine (error_any 0 0 _ (hE.below (B := w.heap.size) (by go_grown) hE.pos)).mono ?_
      rintro e w5 ⟨rfl, hb5⟩
      have hB5 : Below w.heap.size w w5 := by
        refine Below.trans ?_ (Below.mono hb5 ?_)
        · go_grown
        · first | omega | (simp; done) | (simp; omega)
      have o5_b : ObjAt w5 (w.heap.size) 57 [.int .i64 s, .int .i64 r, .int .i64 h, .int .i64 t] := ObjAt.below (ObjAt.other4 (H4_b.out) (by omega)) hb5
      have o5_want : ObjAt w5 (w1.heap.size) 57 [.int .i64 s, .int .i64 r, .int .i64 (H - n), .int .i64 x] := ObjAt.below (ObjAt.other4 (H4_want.out) (by omega)) hb5
      have o5_x : ObjAt w5 (w2.heap.size) 57 [.int .i64 s, .int .i64 r, .int .i64 (H - n), .int .i64 x] := ObjAt.below (ObjAt.set4 (H4_x.out)) hb5
      clear q4_b_0 q4_b_1 q4_b_2 q4_b_3 H4_b q4_want_0 f4_want_0 q4_want_1 f4_want_1 q4_want_2 f4_want_2 q4_want_3 f4_want_3 H4_want q4_x_0 f4_x_0 q4_x_1 f4_x_1 q4_x_2 f4_x_2 q4_x_3 f4_x_3 H4_x
      have q5_b_0 := o5_b.cell (i := 0) rfl
      have q5_b_1 := o5_b.cell (i := 1) rfl
      have q5_b_2 := o5_b.cell (i := 2) rfl
      have q5_b_3 := o5_b.cell (i := 3) rfl
      have l5_b := o5_b.lt
      have H5_b := hide o5_b
      clear o5_b
      have q5_want_0 := o5_want.cell (i := 0) rfl
      have f5_want_0 := o5_want.free 0
      have q5_want_1 := o5_want.cell (i := 1) rfl
      have f5_want_1 := o5_want.free 1
      have q5_want_2 := o5_want.cell (i := 2) rfl
      have f5_want_2 := o5_want.free 2
      have q5_want_3 := o5_want.cell (i := 3) rfl
      have f5_want_3 := o5_want.free 3
      have l5_want := o5_want.lt
      have H5_want := hide o5_want
      clear o5_want
      have q5_x_0 := o5_x.cell (i := 0) rfl
      have f5_x_0 := o5_x.free 0
      have q5_x_1 := o5_x.cell (i := 1) rfl
      have f5_x_1 := o5_x.free 1
      have q5_x_2 := o5_x.cell (i := 2) rfl
      have f5_x_2 := o5_x.free 2
      have q5_x_3 := o5_x.cell (i := 3) rfl
      have f5_x_3 := o5_x.free 3
      have l5_x := o5_x.lt
      have H5_x := hide o5_x
      clear o5_x
      have hy5 : w.heap.size ≤ w5.heap.size := hB5.size
      clear hb5
      go_wp2
      go_ret
      exact ⟨rfl, by go_grown⟩
  · rcases buckAtE_cases s r h t x with ⟨h0, e1, e2, e3⟩ | h0
    · obtain ⟨z0, z1, _⟩ := buckH_in e1 e2 e3
      obtain ⟨⟨k1, k2, k3, k4, k5, k6⟩, k7, k8⟩ := buckB_ok e1
      have RA := hide (fun W => rAt_ok e1 e2 e3 W)
      have AT' := hide (fun W => bucketAt_ok e1 e2 e3 W)
      obtain ⟨H, hH⟩ : ∃ H, H = buckH s r h t x := ⟨_, rfl⟩
      have AT : Hid (∀ W, Calls Tryd.prog 32 #[.agg #[.int .i64 s, .int .i64 r, .int .i64 h, .int .i64 t], .int .i64 x] W fun e w' => e = .returned (.tuple #[.agg #[.int .i64 s, .int .i64 r, .int .i64 H, .int .i64 x], .nilIface]) ∧ Below W.heap.size W w') := by intro W; have k := AT'.out W; rw [show min s (h + r * (x - t)) = H from hH.symm] at k; exact k
      rw [← hH] at RA z0 z1
      have hn : n < 0 ∨ (0 ≤ n ∧ 100 < n) ∨ (0 ≤ n ∧ n ≤ 100) := by omega
      rcases hn with h1 | ⟨h1, h2⟩ | ⟨h1, h2⟩
      · have TK : Hid (∀ W, Calls Tryd.prog 33 #[.agg #[.int .i64 s, .int .i64 r, .int .i64 h, .int .i64 t], .int .i64 x, .int .i64 n] W fun e w' => e = .returned (.tuple #[.agg #[.int .i64 0, .int .i64 0, .int .i64 0, .int .i64 0], .iface 107 (.int .i64 1)]) ∧ Below W.heap.size W w') := hide (bucketTake_bad (c := 1) (by unfold buckTE; rw [if_neg (by simp [h0]), if_pos (by simp [buB]; omega)]) (by omega))
        clear AT' hH e1 e2 h0 hbad
        go_enter Tryd.func6, Tryd.ntmps6
        go_wp2_with fail
        have b0 : ObjAt (w.alloc (.cells #[.int .i64 s, .int .i64 r, .int .i64 h, .int .i64 t] 57)) w.heap.size 57 [.int .i64 s, .int .i64 r, .int .i64 h, .int .i64 t] := ObjAt.new _ _ _
        have hB0 : Below w.heap.size w (w.alloc (.cells #[.int .i64 s, .int .i64 r, .int .i64 h, .int .i64 t] 57)) := (Below.refl _ _).alloc (Nat.le_refl _) _
        generalize w.alloc (.cells #[.int .i64 s, .int .i64 r, .int .i64 h, .int .i64 t] 57) = w0 at b0 hB0 ⊢
        have l0 := b0.lt
        have hE0 := hide (hE.below hB0 hE.pos)
        have q0 := b0.cell (i := 0) rfl
        have q1 := b0.cell (i := 1) rfl
        have q2 := b0.cell (i := 2) rfl
        have q3 := b0.cell (i := 3) rfl
        have HS : Hid (∀ w' : World, Below w0.heap.size w0 w' → w'.cell? ⟨w.heap.size, 0, none⟩ = some (.int .i64 s) ∧ w'.cell? ⟨w.heap.size, 1, none⟩ = some (.int .i64 r) ∧ w'.cell? ⟨w.heap.size, 2, none⟩ = some (.int .i64 h) ∧ w'.cell? ⟨w.heap.size, 3, none⟩ = some (.int .i64 t)) :=
          fun w' hB => ⟨(hB.cell (p := ⟨w.heap.size, 0, none⟩) l0).trans q0, (hB.cell (p := ⟨w.heap.size, 1, none⟩) l0).trans q1, (hB.cell (p := ⟨w.heap.size, 2, none⟩) l0).trans q2, (hB.cell (p := ⟨w.heap.size, 3, none⟩) l0).trans q3⟩
        have B0 := hide b0
        clear b0
        have hrr := Below.refl w0.heap.size w0
        go_region_held3 (fun w' => w'.cell? ⟨w.heap.size, 0, none⟩ = some (.int .i64 s) ∧ w'.cell? ⟨w.heap.size, 1, none⟩ = some (.int .i64 r) ∧ w'.cell? ⟨w.heap.size, 2, none⟩ = some (.int .i64 h) ∧ w'.cell? ⟨w.heap.size, 3, none⟩ = some (.int .i64 t)) (first | exact HS.out _ (by assumption) | (refine HS.out _ ?_; go_grown) | go_keep)
          (first | (go_at_call 29; refine (CK.out _).mono ?_; rintro eA wA ⟨rfl, hbA⟩; have hwA : Below w0.heap.size w0 wA := Below.trans (by go_grown) (Below.mono hbA (by first | omega | (simp; done) | (simp; omega))); have hzA := hwA.size; clear hbA) | (go_at_call 30; refine (RB.out _).mono ?_; rintro eB wB ⟨rfl, hbB⟩; have hwB : Below w0.heap.size w0 wB := Below.trans (by go_grown) (Below.mono hbB (by first | omega | (simp; done) | (simp; omega))); have hzB := hwB.size; clear hbB) | (go_at_call 21; refine (error_any g g _ (hE0.out.below (B := w0.heap.size) (by go_grown) hE0.out.pos)).mono ?_; rintro eC wC ⟨rfl, hbC⟩; have hwC : Below w0.heap.size w0 wC := Below.trans (by go_grown) (Below.mono hbC (by first | omega | (simp; done) | (simp; omega))); have hzC := hwC.size; clear hbC))
        all_goals
          have bC := hide (ObjAt.below B0.out hwC)
          have hBC : Below w.heap.size w wC := hB0.trans (hwC.mono hB0.size)
          have lC := bC.out.lt
          have q0 := bC.out.cell (i := 0) rfl
          have q1 := bC.out.cell (i := 1) rfl
          have q2 := bC.out.cell (i := 2) rfl
          have q3 := bC.out.cell (i := 3) rfl
          have hyC : w.heap.size ≤ wC.heap.size := hBC.size
          clear hwA hwB hwC hzA hzB hzC hrr hB0 l0 HS B0 CK RB
          go_wp2_with fail
          refine (RA.out _).mono ?_
          rintro e w1 ⟨rfl, hb1⟩
          have hB1 : Below w.heap.size w w1 := by
            refine Below.trans ?_ (Below.mono hb1 ?_)
            · go_grown
            · first | omega | (simp; done) | (simp; omega)
          have o1_b : ObjAt w1 (w.heap.size) 57 [.int .i64 s, .int .i64 r, .int .i64 h, .int .i64 t] := ObjAt.below (bC.out) hb1
          clear q0 q1 q2 q3 bC
          have q1_b_0 := o1_b.cell (i := 0) rfl
          have q1_b_1 := o1_b.cell (i := 1) rfl
          have q1_b_2 := o1_b.cell (i := 2) rfl
          have q1_b_3 := o1_b.cell (i := 3) rfl
          have l1_b := o1_b.lt
          have H1_b := hide o1_b
          clear o1_b
          have hy1 : w.heap.size ≤ w1.heap.size := hB1.size
          clear hb1
          go_wp2_with fail
          refine (AT.out _).mono ?_
          rintro e w2 ⟨rfl, hb2⟩
          have hB2 : Below w.heap.size w w2 := by
            refine Below.trans ?_ (Below.mono hb2 ?_)
            · go_grown
            · first | omega | (simp; done) | (simp; omega)
          have o2_b : ObjAt w2 (w.heap.size) 57 [.int .i64 s, .int .i64 r, .int .i64 h, .int .i64 t] := ObjAt.below (ObjAt.alloc (H1_b.out) _) hb2
          have o2_want : ObjAt w2 (w1.heap.size) 57 [.int .i64 s, .int .i64 r, .int .i64 H, .int .i64 x] := ObjAt.below (objNew (by simp)) hb2
          clear q1_b_0 q1_b_1 q1_b_2 q1_b_3 H1_b
          have q2_b_0 := o2_b.cell (i := 0) rfl
          have q2_b_1 := o2_b.cell (i := 1) rfl
          have q2_b_2 := o2_b.cell (i := 2) rfl
          have q2_b_3 := o2_b.cell (i := 3) rfl
          have l2_b := o2_b.lt
          have H2_b := hide o2_b
          clear o2_b
          have q2_want_0 := o2_want.cell (i := 0) rfl
          have f2_want_0 := o2_want.free 0
          have q2_want_1 := o2_want.cell (i := 1) rfl
          have f2_want_1 := o2_want.free 1
          have q2_want_2 := o2_want.cell (i := 2) rfl
          have f2_want_2 := o2_want.free 2
          have q2_want_3 := o2_want.cell (i := 3) rfl
          have f2_want_3 := o2_want.free 3
          have l2_want := o2_want.lt
          have H2_want := hide o2_want
          clear o2_want
          have hy2 : w.heap.size ≤ w2.heap.size := hB2.size
          clear hb2
          go_wp2_with fail
          refine (error_any 0 0 _ (hE.below (B := w.heap.size) (by go_grown) hE.pos)).mono ?_
          rintro e w3 ⟨rfl, hb3⟩
          have hB3 : Below w.heap.size w w3 := by
            refine Below.trans ?_ (Below.mono hb3 ?_)
            · go_grown
            · first | omega | (simp; done) | (simp; omega)
          have o3_b : ObjAt w3 (w.heap.size) 57 [.int .i64 s, .int .i64 r, .int .i64 h, .int .i64 t] := ObjAt.below (ObjAt.alloc (H2_b.out) _) hb3
          have o3_want : ObjAt w3 (w1.heap.size) 57 [.int .i64 s, .int .i64 r, .int .i64 H, .int .i64 x] := ObjAt.below (ObjAt.alloc (H2_want.out) _) hb3
          have o3_x : ObjAt w3 (w2.heap.size) 57 [.int .i64 s, .int .i64 r, .int .i64 H, .int .i64 x] := ObjAt.below (objNew (by simp)) hb3
          clear q2_b_0 q2_b_1 q2_b_2 q2_b_3 H2_b q2_want_0 f2_want_0 q2_want_1 f2_want_1 q2_want_2 f2_want_2 q2_want_3 f2_want_3 H2_want
          have q3_b_0 := o3_b.cell (i := 0) rfl
          have q3_b_1 := o3_b.cell (i := 1) rfl
          have q3_b_2 := o3_b.cell (i := 2) rfl
          have q3_b_3 := o3_b.cell (i := 3) rfl
          have l3_b := o3_b.lt
          have H3_b := hide o3_b
          clear o3_b
          have q3_want_0 := o3_want.cell (i := 0) rfl
          have f3_want_0 := o3_want.free 0
          have q3_want_1 := o3_want.cell (i := 1) rfl
          have f3_want_1 := o3_want.free 1
          have q3_want_2 := o3_want.cell (i := 2) rfl
          have f3_want_2 := o3_want.free 2
          have q3_want_3 := o3_want.cell (i := 3) rfl
          have f3_want_3 := o3_want.free 3
          have l3_want := o3_want.lt
          have H3_want := hide o3_want
          clear o3_want
          have q3_x_0 := o3_x.cell (i := 0) rfl
          have f3_x_0 := o3_x.free 0
          have q3_x_1 := o3_x.cell (i := 1) rfl
          have f3_x_1 := o3_x.free 1
          have q3_x_2 := o3_x.cell (i := 2) rfl
          have f3_x_2 := o3_x.free 2
          have q3_x_3 := o3_x.cell (i := 3) rfl
          have f3_x_3 := o3_x.free 3
          have l3_x := o3_x.lt
          have H3_x := hide o3_x
          clear o3_x
          have hy3 : w.heap.size ≤ w3.heap.size := hB3.size
          clear hb3
          go_wp2_with fail
          refine (TK.out _).mono ?_
          rintro e w4 ⟨rfl, hb4⟩
          have hB4 : Below w.heap.size w w4 := by
            refine Below.trans ?_ (Below.mono hb4 ?_)
            · go_grown
            · first | omega | (simp; done) | (simp; omega)
          have o4_b : ObjAt w4 (w.heap.size) 57 [.int .i64 s, .int .i64 r, .int .i64 h, .int .i64 t] := ObjAt.below (ObjAt.other4 (H3_b.out) (by omega)) hb4
          have o4_want : ObjAt w4 (w1.heap.size) 57 [.int .i64 0, .int .i64 0, .int .i64 0, .int .i64 0] := ObjAt.below (ObjAt.set4 (H3_want.out)) hb4
          have o4_x : ObjAt w4 (w2.heap.size) 57 [.int .i64 s, .int .i64 r, .int .i64 H, .int .i64 x] := ObjAt.below (ObjAt.other4 (H3_x.out) (by omega)) hb4
          clear q3_b_0 q3_b_1 q3_b_2 q3_b_3 H3_b q3_want_0 f3_want_0 q3_want_1 f3_want_1 q3_want_2 f3_want_2 q3_want_3 f3_want_3 H3_want q3_x_0 f3_x_0 q3_x_1 f3_x_1 q3_x_2 f3_x_2 q3_x_3 f3_x_3 H3_x
          have q4_b_0 := o4_b.cell (i := 0) rfl
          have q4_b_1 := o4_b.cell (i := 1) rfl
          have q4_b_2 := o4_b.cell (i := 2) rfl
          have q4_b_3 := o4_b.cell (i := 3) rfl
          have l4_b := o4_b.lt
          have H4_b := hide o4_b
          clear o4_b
          have q4_want_0 := o4_want.cell (i := 0) rfl
          have f4_want_0 := o4_want.free 0
          have q4_want_1 := o4_want.cell (i := 1) rfl
          have f4_want_1 := o4_want.free 1
          have q4_want_2 := o4_want.cell (i := 2) rfl
          have f4_want_2 := o4_want.free 2
          have q4_want_3 := o4_want.cell (i := 3) rfl
          have f4_want_3 := o4_want.free 3
          have l4_want := o4_want.lt
          have H4_want := hide o4_want
          clear o4_want
          have q4_x_0 := o4_x.cell (i := 0) rfl
          have f4_x_0 := o4_x.free 0
          have q4_x_1 := o4_x.cell (i := 1) rfl
          have f4_x_1 := o4_x.free 1
          have q4_x_2 := o4_x.cell (i := 2) rfl
          have f4_x_2 := o4_x.free 2
          have q4_x_3 := o4_x.cell (i := 3) rfl
          have f4_x_3 := o4_x.free 3
          have l4_x := o4_x.lt
          have H4_x := hide o4_x
          clear o4_x
          have hy4 : w.heap.size ≤ w4.heap.size := hB4.size
          clear hb4
          go_wp2_with fail
          refine (error_any 1 1 _ (hE.below (B := w.heap.size) (by go_grown) hE.pos)).mono ?_
          rintro e w5 ⟨rfl, hb5⟩
          have hB5 : Below w.heap.size w w5 := by
            refine Below.trans ?_ (Below.mono hb5 ?_)
            · go_grown
            · first | omega | (simp; done) | (simp; omega)
          have o5_b : ObjAt w5 (w.heap.size) 57 [.int .i64 s, .int .i64 r, .int .i64 h, .int .i64 t] := ObjAt.below (ObjAt.other4 (H4_b.out) (by omega)) hb5
          have o5_want : ObjAt w5 (w1.heap.size) 57 [.int .i64 0, .int .i64 0, .int .i64 0, .int .i64 0] := ObjAt.below (ObjAt.other4 (H4_want.out) (by omega)) hb5
          have o5_x : ObjAt w5 (w2.heap.size) 57 [.int .i64 0, .int .i64 0, .int .i64 0, .int .i64 0] := ObjAt.below (ObjAt.set4 (H4_x.out)) hb5
          clear q4_b_0 q4_b_1 q4_b_2 q4_b_3 H4_b q4_want_0 f4_want_0 q4_want_1 f4_want_1 q4_want_2 f4_want_2 q4_want_3 f4_want_3 H4_want q4_x_0 f4_x_0 q4_x_1 f4_x_1 q4_x_2 f4_x_2 q4_x_3 f4_x_3 H4_x
          have q5_b_0 := o5_b.cell (i := 0) rfl
          have q5_b_1 := o5_b.cell (i := 1) rfl
          have q5_b_2 := o5_b.cell (i := 2) rfl
          have q5_b_3 := o5_b.cell (i := 3) rfl
          have l5_b := o5_b.lt
          have H5_b := hide o5_b
          clear o5_b
          have q5_want_0 := o5_want.cell (i := 0) rfl
          have f5_want_0 := o5_want.free 0
          have q5_want_1 := o5_want.cell (i := 1) rfl
          have f5_want_1 := o5_want.free 1
          have q5_want_2 := o5_want.cell (i := 2) rfl
          have f5_want_2 := o5_want.free 2
          have q5_want_3 := o5_want.cell (i := 3) rfl
          have f5_want_3 := o5_want.free 3
          have l5_want := o5_want.lt
          have H5_want := hide o5_want
          clear o5_want
          have q5_x_0 := o5_x.cell (i := 0) rfl
          have f5_x_0 := o5_x.free 0
          have q5_x_1 := o5_x.cell (i := 1) rfl
          have f5_x_1 := o5_x.free 1
          have q5_x_2 := o5_x.cell (i := 2) rfl
          have f5_x_2 := o5_x.free 2
          have q5_x_3 := o5_x.cell (i := 3) rfl
          have f5_x_3 := o5_x.free 3
          have l5_x := o5_x.lt
          have H5_x := hide o5_x
          clear o5_x
          have hy5 : w.heap.size ≤ w5.heap.size := hB5.size
          clear hb5
          go_wp2
          go_ret
          exact ⟨rfl, by go_grown⟩
      · have TK : Hid (∀ W, Calls Tryd.prog 33 #[.agg #[.int .i64 s, .int .i64 r, .int .i64 h, .int .i64 t], .int .i64 x, .int .i64 n] W fun e w' => e = .returned (.tuple #[.agg #[.int .i64 0, .int .i64 0, .int .i64 0, .int .i64 0], .iface 107 (.int .i64 1)]) ∧ Below W.heap.size W w') := hide (bucketTake_bad (c := 1) (by unfold buckTE; rw [if_neg (by simp [h0]), if_pos (by simp [buB]; omega)]) (by omega))
        clear AT' hH e1 e2 h0 hbad
        go_enter Tryd.func6, Tryd.ntmps6
        go_wp2_with fail
        have b0 : ObjAt (w.alloc (.cells #[.int .i64 s, .int .i64 r, .int .i64 h, .int .i64 t] 57)) w.heap.size 57 [.int .i64 s, .int .i64 r, .int .i64 h, .int .i64 t] := ObjAt.new _ _ _
        have hB0 : Below w.heap.size w (w.alloc (.cells #[.int .i64 s, .int .i64 r, .int .i64 h, .int .i64 t] 57)) := (Below.refl _ _).alloc (Nat.le_refl _) _
        generalize w.alloc (.cells #[.int .i64 s, .int .i64 r, .int .i64 h, .int .i64 t] 57) = w0 at b0 hB0 ⊢
        have l0 := b0.lt
        have hE0 := hide (hE.below hB0 hE.pos)
        have q0 := b0.cell (i := 0) rfl
        have q1 := b0.cell (i := 1) rfl
        have q2 := b0.cell (i := 2) rfl
        have q3 := b0.cell (i := 3) rfl
        have HS : Hid (∀ w' : World, Below w0.heap.size w0 w' → w'.cell? ⟨w.heap.size, 0, none⟩ = some (.int .i64 s) ∧ w'.cell? ⟨w.heap.size, 1, none⟩ = some (.int .i64 r) ∧ w'.cell? ⟨w.heap.size, 2, none⟩ = some (.int .i64 h) ∧ w'.cell? ⟨w.heap.size, 3, none⟩ = some (.int .i64 t)) :=
          fun w' hB => ⟨(hB.cell (p := ⟨w.heap.size, 0, none⟩) l0).trans q0, (hB.cell (p := ⟨w.heap.size, 1, none⟩) l0).trans q1, (hB.cell (p := ⟨w.heap.size, 2, none⟩) l0).trans q2, (hB.cell (p := ⟨w.heap.size, 3, none⟩) l0).trans q3⟩
        have B0 := hide b0
        clear b0
        have hrr := Below.refl w0.heap.size w0
        go_region_held3 (fun w' => w'.cell? ⟨w.heap.size, 0, none⟩ = some (.int .i64 s) ∧ w'.cell? ⟨w.heap.size, 1, none⟩ = some (.int .i64 r) ∧ w'.cell? ⟨w.heap.size, 2, none⟩ = some (.int .i64 h) ∧ w'.cell? ⟨w.heap.size, 3, none⟩ = some (.int .i64 t)) (first | exact HS.out _ (by assumption) | (refine HS.out _ ?_; go_grown) | go_keep)
          (first | (go_at_call 29; refine (CK.out _).mono ?_; rintro eA wA ⟨rfl, hbA⟩; have hwA : Below w0.heap.size w0 wA := Below.trans (by go_grown) (Below.mono hbA (by first | omega | (simp; done) | (simp; omega))); have hzA := hwA.size; clear hbA) | (go_at_call 30; refine (RB.out _).mono ?_; rintro eB wB ⟨rfl, hbB⟩; have hwB : Below w0.heap.size w0 wB := Below.trans (by go_grown) (Below.mono hbB (by first | omega | (simp; done) | (simp; omega))); have hzB := hwB.size; clear hbB) | (go_at_call 21; refine (error_any g g _ (hE0.out.below (B := w0.heap.size) (by go_grown) hE0.out.pos)).mono ?_; rintro eC wC ⟨rfl, hbC⟩; have hwC : Below w0.heap.size w0 wC := Below.trans (by go_grown) (Below.mono hbC (by first | omega | (simp; done) | (simp; omega))); have hzC := hwC.size; clear hbC))
        all_goals
          have bC := hide (ObjAt.below B0.out hwC)
          have hBC : Below w.heap.size w wC := hB0.trans (hwC.mono hB0.size)
          have lC := bC.out.lt
          have q0 := bC.out.cell (i := 0) rfl
          have q1 := bC.out.cell (i := 1) rfl
          have q2 := bC.out.cell (i := 2) rfl
          have q3 := bC.out.cell (i := 3) rfl
          have hyC : w.heap.size ≤ wC.heap.size := hBC.size
          clear hwA hwB hwC hzA hzB hzC hrr hB0 l0 HS B0 CK RB
          go_wp2_with fail
          refine (RA.out _).mono ?_
          rintro e w1 ⟨rfl, hb1⟩
          have hB1 : Below w.heap.size w w1 := by
            refine Below.trans ?_ (Below.mono hb1 ?_)
            · go_grown
            · first | omega | (simp; done) | (simp; omega)
          have o1_b : ObjAt w1 (w.heap.size) 57 [.int .i64 s, .int .i64 r, .int .i64 h, .int .i64 t] := ObjAt.below (bC.out) hb1
          clear q0 q1 q2 q3 bC
          have q1_b_0 := o1_b.cell (i := 0) rfl
          have q1_b_1 := o1_b.cell (i := 1) rfl
          have q1_b_2 := o1_b.cell (i := 2) rfl
          have q1_b_3 := o1_b.cell (i := 3) rfl
          have l1_b := o1_b.lt
          have H1_b := hide o1_b
          clear o1_b
          have hy1 : w.heap.size ≤ w1.heap.size := hB1.size
          clear hb1
          go_wp2_with fail
          refine (AT.out _).mono ?_
          rintro e w2 ⟨rfl, hb2⟩
          have hB2 : Below w.heap.size w w2 := by
            refine Below.trans ?_ (Below.mono hb2 ?_)
            · go_grown
            · first | omega | (simp; done) | (simp; omega)
          have o2_b : ObjAt w2 (w.heap.size) 57 [.int .i64 s, .int .i64 r, .int .i64 h, .int .i64 t] := ObjAt.below (ObjAt.alloc (H1_b.out) _) hb2
          have o2_want : ObjAt w2 (w1.heap.size) 57 [.int .i64 s, .int .i64 r, .int .i64 H, .int .i64 x] := ObjAt.below (objNew (by simp)) hb2
          clear q1_b_0 q1_b_1 q1_b_2 q1_b_3 H1_b
          have q2_b_0 := o2_b.cell (i := 0) rfl
          have q2_b_1 := o2_b.cell (i := 1) rfl
          have q2_b_2 := o2_b.cell (i := 2) rfl
          have q2_b_3 := o2_b.cell (i := 3) rfl
          have l2_b := o2_b.lt
          have H2_b := hide o2_b
          clear o2_b
          have q2_want_0 := o2_want.cell (i := 0) rfl
          have f2_want_0 := o2_want.free 0
          have q2_want_1 := o2_want.cell (i := 1) rfl
          have f2_want_1 := o2_want.free 1
          have q2_want_2 := o2_want.cell (i := 2) rfl
          have f2_want_2 := o2_want.free 2
          have q2_want_3 := o2_want.cell (i := 3) rfl
          have f2_want_3 := o2_want.free 3
          have l2_want := o2_want.lt
          have H2_want := hide o2_want
          clear o2_want
          have hy2 : w.heap.size ≤ w2.heap.size := hB2.size
          clear hb2
          go_wp2_with fail
          refine (error_any 0 0 _ (hE.below (B := w.heap.size) (by go_grown) hE.pos)).mono ?_
          rintro e w3 ⟨rfl, hb3⟩
          have hB3 : Below w.heap.size w w3 := by
            refine Below.trans ?_ (Below.mono hb3 ?_)
            · go_grown
            · first | omega | (simp; done) | (simp; omega)
          have o3_b : ObjAt w3 (w.heap.size) 57 [.int .i64 s, .int .i64 r, .int .i64 h, .int .i64 t] := ObjAt.below (ObjAt.alloc (H2_b.out) _) hb3
          have o3_want : ObjAt w3 (w1.heap.size) 57 [.int .i64 s, .int .i64 r, .int .i64 H, .int .i64 x] := ObjAt.below (ObjAt.alloc (H2_want.out) _) hb3
          have o3_x : ObjAt w3 (w2.heap.size) 57 [.int .i64 s, .int .i64 r, .int .i64 H, .int .i64 x] := ObjAt.below (objNew (by simp)) hb3
          clear q2_b_0 q2_b_1 q2_b_2 q2_b_3 H2_b q2_want_0 f2_want_0 q2_want_1 f2_want_1 q2_want_2 f2_want_2 q2_want_3 f2_want_3 H2_want
          have q3_b_0 := o3_b.cell (i := 0) rfl
          have q3_b_1 := o3_b.cell (i := 1) rfl
          have q3_b_2 := o3_b.cell (i := 2) rfl
          have q3_b_3 := o3_b.cell (i := 3) rfl
          have l3_b := o3_b.lt
          have H3_b := hide o3_b
          clear o3_b
          have q3_want_0 := o3_want.cell (i := 0) rfl
          have f3_want_0 := o3_want.free 0
          have q3_want_1 := o3_want.cell (i := 1) rfl
          have f3_want_1 := o3_want.free 1
          have q3_want_2 := o3_want.cell (i := 2) rfl
          have f3_want_2 := o3_want.free 2
          have q3_want_3 := o3_want.cell (i := 3) rfl
          have f3_want_3 := o3_want.free 3
          have l3_want := o3_want.lt
          have H3_want := hide o3_want
          clear o3_want
          have q3_x_0 := o3_x.cell (i := 0) rfl
          have f3_x_0 := o3_x.free 0
          have q3_x_1 := o3_x.cell (i := 1) rfl
          have f3_x_1 := o3_x.free 1
          have q3_x_2 := o3_x.cell (i := 2) rfl
          have f3_x_2 := o3_x.free 2
          have q3_x_3 := o3_x.cell (i := 3) rfl
          have f3_x_3 := o3_x.free 3
          have l3_x := o3_x.lt
          have H3_x := hide o3_x
          clear o3_x
          have hy3 : w.heap.size ≤ w3.heap.size := hB3.size
          clear hb3
          go_wp2_with fail
          refine (TK.out _).mono ?_
          rintro e w4 ⟨rfl, hb4⟩
          have hB4 : Below w.heap.size w w4 := by
            refine Below.trans ?_ (Below.mono hb4 ?_)
            · go_grown
            · first | omega | (simp; done) | (simp; omega)
          have o4_b : ObjAt w4 (w.heap.size) 57 [.int .i64 s, .int .i64 r, .int .i64 h, .int .i64 t] := ObjAt.below (ObjAt.other4 (H3_b.out) (by omega)) hb4
          have o4_want : ObjAt w4 (w1.heap.size) 57 [.int .i64 0, .int .i64 0, .int .i64 0, .int .i64 0] := ObjAt.below (ObjAt.set4 (H3_want.out)) hb4
          have o4_x : ObjAt w4 (w2.heap.size) 57 [.int .i64 s, .int .i64 r, .int .i64 H, .int .i64 x] := ObjAt.below (ObjAt.other4 (H3_x.out) (by omega)) hb4
          clear q3_b_0 q3_b_1 q3_b_2 q3_b_3 H3_b q3_want_0 f3_want_0 q3_want_1 f3_want_1 q3_want_2 f3_want_2 q3_want_3 f3_want_3 H3_want q3_x_0 f3_x_0 q3_x_1 f3_x_1 q3_x_2 f3_x_2 q3_x_3 f3_x_3 H3_x
          have q4_b_0 := o4_b.cell (i := 0) rfl
          have q4_b_1 := o4_b.cell (i := 1) rfl
          have q4_b_2 := o4_b.cell (i := 2) rfl
          have q4_b_3 := o4_b.cell (i := 3) rfl
          have l4_b := o4_b.lt
          have H4_b := hide o4_b
          clear o4_b
          have q4_want_0 := o4_want.cell (i := 0) rfl
          have f4_want_0 := o4_want.free 0
          have q4_want_1 := o4_want.cell (i := 1) rfl
          have f4_want_1 := o4_want.free 1
          have q4_want_2 := o4_want.cell (i := 2) rfl
          have f4_want_2 := o4_want.free 2
          have q4_want_3 := o4_want.cell (i := 3) rfl
          have f4_want_3 := o4_want.free 3
          have l4_want := o4_want.lt
          have H4_want := hide o4_want
          clear o4_want
          have q4_x_0 := o4_x.cell (i := 0) rfl
          have f4_x_0 := o4_x.free 0
          have q4_x_1 := o4_x.cell (i := 1) rfl
          have f4_x_1 := o4_x.free 1
          have q4_x_2 := o4_x.cell (i := 2) rfl
          have f4_x_2 := o4_x.free 2
          have q4_x_3 := o4_x.cell (i := 3) rfl
          have f4_x_3 := o4_x.free 3
          have l4_x := o4_x.lt
          have H4_x := hide o4_x
          clear o4_x
          have hy4 : w.heap.size ≤ w4.heap.size := hB4.size
          clear hb4
          go_wp2_with fail
          refine (error_any 1 1 _ (hE.below (B := w.heap.size) (by go_grown) hE.pos)).mono ?_
          rintro e w5 ⟨rfl, hb5⟩
          have hB5 : Below w.heap.size w w5 := by
            refine Below.trans ?_ (Below.mono hb5 ?_)
            · go_grown
            · first | omega | (simp; done) | (simp; omega)
          have o5_b : ObjAt w5 (w.heap.size) 57 [.int .i64 s, .int .i64 r, .int .i64 h, .int .i64 t] := ObjAt.below (ObjAt.other4 (H4_b.out) (by omega)) hb5
          have o5_want : ObjAt w5 (w1.heap.size) 57 [.int .i64 0, .int .i64 0, .int .i64 0, .int .i64 0] := ObjAt.below (ObjAt.other4 (H4_want.out) (by omega)) hb5
          have o5_x : ObjAt w5 (w2.heap.size) 57 [.int .i64 0, .int .i64 0, .int .i64 0, .int .i64 0] := ObjAt.below (ObjAt.set4 (H4_x.out)) hb5
          clear q4_b_0 q4_b_1 q4_b_2 q4_b_3 H4_b q4_want_0 f4_want_0 q4_want_1 f4_want_1 q4_want_2 f4_want_2 q4_want_3 f4_want_3 H4_want q4_x_0 f4_x_0 q4_x_1 f4_x_1 q4_x_2 f4_x_2 q4_x_3 f4_x_3 H4_x
          have q5_b_0 := o5_b.cell (i := 0) rfl
          have q5_b_1 := o5_b.cell (i := 1) rfl
          have q5_b_2 := o5_b.cell (i := 2) rfl
          have q5_b_3 := o5_b.cell (i := 3) rfl
          have l5_b := o5_b.lt
          have H5_b := hide o5_b
          clear o5_b
          have q5_want_0 := o5_want.cell (i := 0) rfl
          have f5_want_0 := o5_want.free 0
          have q5_want_1 := o5_want.cell (i := 1) rfl
          have f5_want_1 := o5_want.free 1
          have q5_want_2 := o5_want.cell (i := 2) rfl
          have f5_want_2 := o5_want.free 2
          have q5_want_3 := o5_want.cell (i := 3) rfl
          have f5_want_3 := o5_want.free 3
          have l5_want := o5_want.lt
          have H5_want := hide o5_want
          clear o5_want
          have q5_x_0 := o5_x.cell (i := 0) rfl
          have f5_x_0 := o5_x.free 0
          have q5_x_1 := o5_x.cell (i := 1) rfl
          have f5_x_1 := o5_x.free 1
          have q5_x_2 := o5_x.cell (i := 2) rfl
          have f5_x_2 := o5_x.free 2
          have q5_x_3 := o5_x.cell (i := 3) rfl
          have f5_x_3 := o5_x.free 3
          have l5_x := o5_x.lt
          have H5_x := hide o5_x
          clear o5_x
          have hy5 : w.heap.size ≤ w5.heap.size := hB5.size
          clear hb5
          go_wp2
          go_ret
          exact ⟨rfl, by go_grown⟩
      · have hHn : H < n := by
          refine Classical.byContradiction fun hq => hbad ?_
          unfold buckTE
          rw [if_neg (by simp [h0]), if_neg (by rw [buB_true.2 ⟨h1, h2⟩]; simp), if_neg (by rw [← hH]; exact hq)]
        have TK : Hid (∀ W, Calls Tryd.prog 33 #[.agg #[.int .i64 s, .int .i64 r, .int .i64 h, .int .i64 t], .int .i64 x, .int .i64 n] W fun e w' => e = .returned (.tuple #[.agg #[.int .i64 0, .int .i64 0, .int .i64 0, .int .i64 0], .iface 107 (.int .i64 4)]) ∧ Below W.heap.size W w') := hide (bucketTake_bad (c := 4) (by unfold buckTE; rw [if_neg (by simp [h0]), if_neg (by rw [buB_true.2 ⟨h1, h2⟩]; simp), if_pos (by rw [← hH]; exact hHn)]) (by omega))
        clear AT' hH e1 e2 h0 hbad
        go_enter Tryd.func6, Tryd.ntmps6
        go_wp2_with fail
        have b0 : ObjAt (w.alloc (.cells #[.int .i64 s, .int .i64 r, .int .i64 h, .int .i64 t] 57)) w.heap.size 57 [.int .i64 s, .int .i64 r, .int .i64 h, .int .i64 t] := ObjAt.new _ _ _
        have hB0 : Below w.heap.size w (w.alloc (.cells #[.int .i64 s, .int .i64 r, .int .i64 h, .int .i64 t] 57)) := (Below.refl _ _).alloc (Nat.le_refl _) _
        generalize w.alloc (.cells #[.int .i64 s, .int .i64 r, .int .i64 h, .int .i64 t] 57) = w0 at b0 hB0 ⊢
        have l0 := b0.lt
        have hE0 := hide (hE.below hB0 hE.pos)
        have q0 := b0.cell (i := 0) rfl
        have q1 := b0.cell (i := 1) rfl
        have q2 := b0.cell (i := 2) rfl
        have q3 := b0.cell (i := 3) rfl
        have HS : Hid (∀ w' : World, Below w0.heap.size w0 w' → w'.cell? ⟨w.heap.size, 0, none⟩ = some (.int .i64 s) ∧ w'.cell? ⟨w.heap.size, 1, none⟩ = some (.int .i64 r) ∧ w'.cell? ⟨w.heap.size, 2, none⟩ = some (.int .i64 h) ∧ w'.cell? ⟨w.heap.size, 3, none⟩ = some (.int .i64 t)) :=
          fun w' hB => ⟨(hB.cell (p := ⟨w.heap.size, 0, none⟩) l0).trans q0, (hB.cell (p := ⟨w.heap.size, 1, none⟩) l0).trans q1, (hB.cell (p := ⟨w.heap.size, 2, none⟩) l0).trans q2, (hB.cell (p := ⟨w.heap.size, 3, none⟩) l0).trans q3⟩
        have B0 := hide b0
        clear b0
        have hrr := Below.refl w0.heap.size w0
        go_region_held3 (fun w' => w'.cell? ⟨w.heap.size, 0, none⟩ = some (.int .i64 s) ∧ w'.cell? ⟨w.heap.size, 1, none⟩ = some (.int .i64 r) ∧ w'.cell? ⟨w.heap.size, 2, none⟩ = some (.int .i64 h) ∧ w'.cell? ⟨w.heap.size, 3, none⟩ = some (.int .i64 t)) (first | exact HS.out _ (by assumption) | (refine HS.out _ ?_; go_grown) | go_keep)
          (first | (go_at_call 29; refine (CK.out _).mono ?_; rintro eA wA ⟨rfl, hbA⟩; have hwA : Below w0.heap.size w0 wA := Below.trans (by go_grown) (Below.mono hbA (by first | omega | (simp; done) | (simp; omega))); have hzA := hwA.size; clear hbA) | (go_at_call 30; refine (RB.out _).mono ?_; rintro eB wB ⟨rfl, hbB⟩; have hwB : Below w0.heap.size w0 wB := Below.trans (by go_grown) (Below.mono hbB (by first | omega | (simp; done) | (simp; omega))); have hzB := hwB.size; clear hbB) | (go_at_call 21; refine (error_any g g _ (hE0.out.below (B := w0.heap.size) (by go_grown) hE0.out.pos)).mono ?_; rintro eC wC ⟨rfl, hbC⟩; have hwC : Below w0.heap.size w0 wC := Below.trans (by go_grown) (Below.mono hbC (by first | omega | (simp; done) | (simp; omega))); have hzC := hwC.size; clear hbC))
        all_goals
          have bC := hide (ObjAt.below B0.out hwC)
          have hBC : Below w.heap.size w wC := hB0.trans (hwC.mono hB0.size)
          have lC := bC.out.lt
          have q0 := bC.out.cell (i := 0) rfl
          have q1 := bC.out.cell (i := 1) rfl
          have q2 := bC.out.cell (i := 2) rfl
          have q3 := bC.out.cell (i := 3) rfl
          have hyC : w.heap.size ≤ wC.heap.size := hBC.size
          clear hwA hwB hwC hzA hzB hzC hrr hB0 l0 HS B0 CK RB
          go_wp2_with fail
          refine (RA.out _).mono ?_
          rintro e w1 ⟨rfl, hb1⟩
          have hB1 : Below w.heap.size w w1 := by
            refine Below.trans ?_ (Below.mono hb1 ?_)
            · go_grown
            · first | omega | (simp; done) | (simp; omega)
          have o1_b : ObjAt w1 (w.heap.size) 57 [.int .i64 s, .int .i64 r, .int .i64 h, .int .i64 t] := ObjAt.below (bC.out) hb1
          clear q0 q1 q2 q3 bC
          have q1_b_0 := o1_b.cell (i := 0) rfl
          have q1_b_1 := o1_b.cell (i := 1) rfl
          have q1_b_2 := o1_b.cell (i := 2) rfl
          have q1_b_3 := o1_b.cell (i := 3) rfl
          have l1_b := o1_b.lt
          have H1_b := hide o1_b
          clear o1_b
          have hy1 : w.heap.size ≤ w1.heap.size := hB1.size
          clear hb1
          go_wp2_with fail
          refine (AT.out _).mono ?_
          rintro e w2 ⟨rfl, hb2⟩
          have hB2 : Below w.heap.size w w2 := by
            refine Below.trans ?_ (Below.mono hb2 ?_)
            · go_grown
            · first | omega | (simp; done) | (simp; omega)
          have o2_b : ObjAt w2 (w.heap.size) 57 [.int .i64 s, .int .i64 r, .int .i64 h, .int .i64 t] := ObjAt.below (ObjAt.alloc (H1_b.out) _) hb2
          have o2_want : ObjAt w2 (w1.heap.size) 57 [.int .i64 s, .int .i64 r, .int .i64 H, .int .i64 x] := ObjAt.below (objNew (by simp)) hb2
          clear q1_b_0 q1_b_1 q1_b_2 q1_b_3 H1_b
          have q2_b_0 := o2_b.cell (i := 0) rfl
          have q2_b_1 := o2_b.cell (i := 1) rfl
          have q2_b_2 := o2_b.cell (i := 2) rfl
          have q2_b_3 := o2_b.cell (i := 3) rfl
          have l2_b := o2_b.lt
          have H2_b := hide o2_b
          clear o2_b
          have q2_want_0 := o2_want.cell (i := 0) rfl
          have f2_want_0 := o2_want.free 0
          have q2_want_1 := o2_want.cell (i := 1) rfl
          have f2_want_1 := o2_want.free 1
          have q2_want_2 := o2_want.cell (i := 2) rfl
          have f2_want_2 := o2_want.free 2
          have q2_want_3 := o2_want.cell (i := 3) rfl
          have f2_want_3 := o2_want.free 3
          have l2_want := o2_want.lt
          have H2_want := hide o2_want
          clear o2_want
          have hy2 : w.heap.size ≤ w2.heap.size := hB2.size
          clear hb2
          go_wp2_with fail
          refine (error_any 0 0 _ (hE.below (B := w.heap.size) (by go_grown) hE.pos)).mono ?_
          rintro e w3 ⟨rfl, hb3⟩
          have hB3 : Below w.heap.size w w3 := by
            refine Below.trans ?_ (Below.mono hb3 ?_)
            · go_grown
            · first | omega | (simp; done) | (simp; omega)
          have o3_b : ObjAt w3 (w.heap.size) 57 [.int .i64 s, .int .i64 r, .int .i64 h, .int .i64 t] := ObjAt.below (ObjAt.alloc (H2_b.out) _) hb3
          have o3_want : ObjAt w3 (w1.heap.size) 57 [.int .i64 s, .int .i64 r, .int .i64 H, .int .i64 x] := ObjAt.below (ObjAt.alloc (H2_want.out) _) hb3
          have o3_x : ObjAt w3 (w2.heap.size) 57 [.int .i64 s, .int .i64 r, .int .i64 H, .int .i64 x] := ObjAt.below (objNew (by simp)) hb3
          clear q2_b_0 q2_b_1 q2_b_2 q2_b_3 H2_b q2_want_0 f2_want_0 q2_want_1 f2_want_1 q2_want_2 f2_want_2 q2_want_3 f2_want_3 H2_want
          have q3_b_0 := o3_b.cell (i := 0) rfl
          have q3_b_1 := o3_b.cell (i := 1) rfl
          have q3_b_2 := o3_b.cell (i := 2) rfl
          have q3_b_3 := o3_b.cell (i := 3) rfl
          have l3_b := o3_b.lt
          have H3_b := hide o3_b
          clear o3_b
          have q3_want_0 := o3_want.cell (i := 0) rfl
          have f3_want_0 := o3_want.free 0
          have q3_want_1 := o3_want.cell (i := 1) rfl
          have f3_want_1 := o3_want.free 1
          have q3_want_2 := o3_want.cell (i := 2) rfl
          have f3_want_2 := o3_want.free 2
          have q3_want_3 := o3_want.cell (i := 3) rfl
          have f3_want_3 := o3_want.free 3
          have l3_want := o3_want.lt
          have H3_want := hide o3_want
          clear o3_want
          have q3_x_0 := o3_x.cell (i := 0) rfl
          have f3_x_0 := o3_x.free 0
          have q3_x_1 := o3_x.cell (i := 1) rfl
          have f3_x_1 := o3_x.free 1
          have q3_x_2 := o3_x.cell (i := 2) rfl
          have f3_x_2 := o3_x.free 2
          have q3_x_3 := o3_x.cell (i := 3) rfl
          have f3_x_3 := o3_x.free 3
          have l3_x := o3_x.lt
          have H3_x := hide o3_x
          clear o3_x
          have hy3 : w.heap.size ≤ w3.heap.size := hB3.size
          clear hb3
          go_wp2_with fail
          refine (TK.out _).mono ?_
          rintro e w4 ⟨rfl, hb4⟩
          have hB4 : Below w.heap.size w w4 := by
            refine Below.trans ?_ (Below.mono hb4 ?_)
            · go_grown
            · first | omega | (simp; done) | (simp; omega)
          have o4_b : ObjAt w4 (w.heap.size) 57 [.int .i64 s, .int .i64 r, .int .i64 h, .int .i64 t] := ObjAt.below (ObjAt.other4 (H3_b.out) (by omega)) hb4
          have o4_want : ObjAt w4 (w1.heap.size) 57 [.int .i64 0, .int .i64 0, .int .i64 0, .int .i64 0] := ObjAt.below (ObjAt.set4 (H3_want.out)) hb4
          have o4_x : ObjAt w4 (w2.heap.size) 57 [.int .i64 s, .int .i64 r, .int .i64 H, .int .i64 x] := ObjAt.below (ObjAt.other4 (H3_x.out) (by omega)) hb4
          clear q3_b_0 q3_b_1 q3_b_2 q3_b_3 H3_b q3_want_0 f3_want_0 q3_want_1 f3_want_1 q3_want_2 f3_want_2 q3_want_3 f3_want_3 H3_want q3_x_0 f3_x_0 q3_x_1 f3_x_1 q3_x_2 f3_x_2 q3_x_3 f3_x_3 H3_x
          have q4_b_0 := o4_b.cell (i := 0) rfl
          have q4_b_1 := o4_b.cell (i := 1) rfl
          have q4_b_2 := o4_b.cell (i := 2) rfl
          have q4_b_3 := o4_b.cell (i := 3) rfl
          have l4_b := o4_b.lt
          have H4_b := hide o4_b
          clear o4_b
          have q4_want_0 := o4_want.cell (i := 0) rfl
          have f4_want_0 := o4_want.free 0
          have q4_want_1 := o4_want.cell (i := 1) rfl
          have f4_want_1 := o4_want.free 1
          have q4_want_2 := o4_want.cell (i := 2) rfl
          have f4_want_2 := o4_want.free 2
          have q4_want_3 := o4_want.cell (i := 3) rfl
          have f4_want_3 := o4_want.free 3
          have l4_want := o4_want.lt
          have H4_want := hide o4_want
          clear o4_want
          have q4_x_0 := o4_x.cell (i := 0) rfl
          have f4_x_0 := o4_x.free 0
          have q4_x_1 := o4_x.cell (i := 1) rfl
          have f4_x_1 := o4_x.free 1
          have q4_x_2 := o4_x.cell (i := 2) rfl
          have f4_x_2 := o4_x.free 2
          have q4_x_3 := o4_x.cell (i := 3) rfl
          have f4_x_3 := o4_x.free 3
          have l4_x := o4_x.lt
          have H4_x := hide o4_x
          clear o4_x
          have hy4 : w.heap.size ≤ w4.heap.size := hB4.size
          clear hb4
          go_wp2_with fail
          refine (error_any 4 4 _ (hE.below (B := w.heap.size) (by go_grown) hE.pos)).mono ?_
          rintro e w5 ⟨rfl, hb5⟩
          have hB5 : Below w.heap.size w w5 := by
            refine Below.trans ?_ (Below.mono hb5 ?_)
            · go_grown
            · first | omega | (simp; done) | (simp; omega)
          have o5_b : ObjAt w5 (w.heap.size) 57 [.int .i64 s, .int .i64 r, .int .i64 h, .int .i64 t] := ObjAt.below (ObjAt.other4 (H4_b.out) (by omega)) hb5
          have o5_want : ObjAt w5 (w1.heap.size) 57 [.int .i64 0, .int .i64 0, .int .i64 0, .int .i64 0] := ObjAt.below (ObjAt.other4 (H4_want.out) (by omega)) hb5
          have o5_x : ObjAt w5 (w2.heap.size) 57 [.int .i64 0, .int .i64 0, .int .i64 0, .int .i64 0] := ObjAt.below (ObjAt.set4 (H4_x.out)) hb5
          clear q4_b_0 q4_b_1 q4_b_2 q4_b_3 H4_b q4_want_0 f4_want_0 q4_want_1 f4_want_1 q4_want_2 f4_want_2 q4_want_3 f4_want_3 H4_want q4_x_0 f4_x_0 q4_x_1 f4_x_1 q4_x_2 f4_x_2 q4_x_3 f4_x_3 H4_x
          have q5_b_0 := o5_b.cell (i := 0) rfl
          have q5_b_1 := o5_b.cell (i := 1) rfl
          have q5_b_2 := o5_b.cell (i := 2) rfl
          have q5_b_3 := o5_b.cell (i := 3) rfl
          have l5_b := o5_b.lt
          have H5_b := hide o5_b
          clear o5_b
          have q5_want_0 := o5_want.cell (i := 0) rfl
          have f5_want_0 := o5_want.free 0
          have q5_want_1 := o5_want.cell (i := 1) rfl
          have f5_want_1 := o5_want.free 1
          have q5_want_2 := o5_want.cell (i := 2) rfl
          have f5_want_2 := o5_want.free 2
          have q5_want_3 := o5_want.cell (i := 3) rfl
          have f5_want_3 := o5_want.free 3
          have l5_want := o5_want.lt
          have H5_want := hide o5_want
          clear o5_want
          have q5_x_0 := o5_x.cell (i := 0) rfl
          have f5_x_0 := o5_x.free 0
          have q5_x_1 := o5_x.cell (i := 1) rfl
          have f5_x_1 := o5_x.free 1
          have q5_x_2 := o5_x.cell (i := 2) rfl
          have f5_x_2 := o5_x.free 2
          have q5_x_3 := o5_x.cell (i := 3) rfl
          have f5_x_3 := o5_x.free 3
          have l5_x := o5_x.lt
          have H5_x := hide o5_x
          clear o5_x
          have hy5 : w.heap.size ≤ w5.heap.size := hB5.size
          clear hb5
          go_wp2
          go_ret
          exact ⟨rfl, by go_grown⟩
    · obtain ⟨c, hc⟩ : ∃ c, buckAtE s r h t x = c := ⟨_, rfl⟩
      rw [hc] at h0
      have RA := hide (fun W => rAt_bad hc h0 W)
      have AT := hide (fun W => bucketAt_bad hc h0 W)
      have TK := hide (fun W => bucketTake_bad (n := n) (by unfold buckTE; rw [if_pos (by rw [hc]; exact h0), hc]) h0 W)
      have t1 : (c == 0) = false := beq_eq_false_iff_ne.2 h0
      have t2 : (c != 0) = true := bne_iff_ne.2 h0
      clear hc h0 hbad
      go_enter Tryd.func6, Tryd.ntmps6
      go_wp2_with fail
      have b0 : ObjAt (w.alloc (.cells #[.int .i64 s, .int .i64 r, .int .i64 h, .int .i64 t] 57)) w.heap.size 57 [.int .i64 s, .int .i64 r, .int .i64 h, .int .i64 t] := ObjAt.new _ _ _
      have hB0 : Below w.heap.size w (w.alloc (.cells #[.int .i64 s, .int .i64 r, .int .i64 h, .int .i64 t] 57)) := (Below.refl _ _).alloc (Nat.le_refl _) _
      generalize w.alloc (.cells #[.int .i64 s, .int .i64 r, .int .i64 h, .int .i64 t] 57) = w0 at b0 hB0 ⊢
      have l0 := b0.lt
      have hE0 := hide (hE.below hB0 hE.pos)
      have q0 := b0.cell (i := 0) rfl
      have q1 := b0.cell (i := 1) rfl
      have q2 := b0.cell (i := 2) rfl
      have q3 := b0.cell (i := 3) rfl
      have HS : Hid (∀ w' : World, Below w0.heap.size w0 w' → w'.cell? ⟨w.heap.size, 0, none⟩ = some (.int .i64 s) ∧ w'.cell? ⟨w.heap.size, 1, none⟩ = some (.int .i64 r) ∧ w'.cell? ⟨w.heap.size, 2, none⟩ = some (.int .i64 h) ∧ w'.cell? ⟨w.heap.size, 3, none⟩ = some (.int .i64 t)) :=
        fun w' hB => ⟨(hB.cell (p := ⟨w.heap.size, 0, none⟩) l0).trans q0, (hB.cell (p := ⟨w.heap.size, 1, none⟩) l0).trans q1, (hB.cell (p := ⟨w.heap.size, 2, none⟩) l0).trans q2, (hB.cell (p := ⟨w.heap.size, 3, none⟩) l0).trans q3⟩
      have B0 := hide b0
      clear b0
      have hrr := Below.refl w0.heap.size w0
      go_region_held3 (fun w' => w'.cell? ⟨w.heap.size, 0, none⟩ = some (.int .i64 s) ∧ w'.cell? ⟨w.heap.size, 1, none⟩ = some (.int .i64 r) ∧ w'.cell? ⟨w.heap.size, 2, none⟩ = some (.int .i64 h) ∧ w'.cell? ⟨w.heap.size, 3, none⟩ = some (.int .i64 t)) (first | exact HS.out _ (by assumption) | (refine HS.out _ ?_; go_grown) | go_keep)
        (first | (go_at_call 29; refine (CK.out _).mono ?_; rintro eA wA ⟨rfl, hbA⟩; have hwA : Below w0.heap.size w0 wA := Below.trans (by go_grown) (Below.mono hbA (by first | omega | (simp; done) | (simp; omega))); have hzA := hwA.size; clear hbA) | (go_at_call 30; refine (RB.out _).mono ?_; rintro eB wB ⟨rfl, hbB⟩; have hwB : Below w0.heap.size w0 wB := Below.trans (by go_grown) (Below.mono hbB (by first | omega | (simp; done) | (simp; omega))); have hzB := hwB.size; clear hbB) | (go_at_call 21; refine (error_any g g _ (hE0.out.below (B := w0.heap.size) (by go_grown) hE0.out.pos)).mono ?_; rintro eC wC ⟨rfl, hbC⟩; have hwC : Below w0.heap.size w0 wC := Below.trans (by go_grown) (Below.mono hbC (by first | omega | (simp; done) | (simp; omega))); have hzC := hwC.size; clear hbC))
      all_goals
        have bC := hide (ObjAt.below B0.out hwC)
        have hBC : Below w.heap.size w wC := hB0.trans (hwC.mono hB0.size)
        have lC := bC.out.lt
        have q0 := bC.out.cell (i := 0) rfl
        have q1 := bC.out.cell (i := 1) rfl
        have q2 := bC.out.cell (i := 2) rfl
        have q3 := bC.out.cell (i := 3) rfl
        have hyC : w.heap.size ≤ wC.heap.size := hBC.size
        clear hwA hwB hwC hzA hzB hzC hrr hB0 l0 HS B0 CK RB
        go_wp2_with fail
        refine (RA.out _).mono ?_
        rintro e w1 ⟨rfl, hb1⟩
        have hB1 : Below w.heap.size w w1 := by
          refine Below.trans ?_ (Below.mono hb1 ?_)
          · go_grown
          · first | omega | (simp; done) | (simp; omega)
        have o1_b : ObjAt w1 (w.heap.size) 57 [.int .i64 s, .int .i64 r, .int .i64 h, .int .i64 t] := ObjAt.below (bC.out) hb1
        clear q0 q1 q2 q3 bC
        have q1_b_0 := o1_b.cell (i := 0) rfl
        have q1_b_1 := o1_b.cell (i := 1) rfl
        have q1_b_2 := o1_b.cell (i := 2) rfl
        have q1_b_3 := o1_b.cell (i := 3) rfl
        have l1_b := o1_b.lt
        have H1_b := hide o1_b
        clear o1_b
        have hy1 : w.heap.size ≤ w1.heap.size := hB1.size
        clear hb1
        go_wp2_with fail
        refine (AT.out _).mono ?_
        rintro e w2 ⟨rfl, hb2⟩
        have hB2 : Below w.heap.size w w2 := by
          refine Below.trans ?_ (Below.mono hb2 ?_)
          · go_grown
          · first | omega | (simp; done) | (simp; omega)
        have o2_b : ObjAt w2 (w.heap.size) 57 [.int .i64 s, .int .i64 r, .int .i64 h, .int .i64 t] := ObjAt.below (ObjAt.alloc (H1_b.out) _) hb2
        have o2_want : ObjAt w2 (w1.heap.size) 57 [.int .i64 0, .int .i64 0, .int .i64 0, .int .i64 0] := ObjAt.below (objNew (by simp)) hb2
        clear q1_b_0 q1_b_1 q1_b_2 q1_b_3 H1_b
        have q2_b_0 := o2_b.cell (i := 0) rfl
        have q2_b_1 := o2_b.cell (i := 1) rfl
        have q2_b_2 := o2_b.cell (i := 2) rfl
        have q2_b_3 := o2_b.cell (i := 3) rfl
        have l2_b := o2_b.lt
        have H2_b := hide o2_b
        clear o2_b
        have q2_want_0 := o2_want.cell (i := 0) rfl
        have f2_want_0 := o2_want.free 0
        have q2_want_1 := o2_want.cell (i := 1) rfl
        have f2_want_1 := o2_want.free 1
        have q2_want_2 := o2_want.cell (i := 2) rfl
        have f2_want_2 := o2_want.free 2
        have q2_want_3 := o2_want.cell (i := 3) rfl
        have f2_want_3 := o2_want.free 3
        have l2_want := o2_want.lt
        have H2_want := hide o2_want
        clear o2_want
        have hy2 : w.heap.size ≤ w2.heap.size := hB2.size
        clear hb2
        go_wp2_with fail
        refine (error_any c c _ (hE.below (B := w.heap.size) (by go_grown) hE.pos)).mono ?_
        rintro e w3 ⟨rfl, hb3⟩
        have hB3 : Below w.heap.size w w3 := by
          refine Below.trans ?_ (Below.mono hb3 ?_)
          · go_grown
          · first | omega | (simp; done) | (simp; omega)
        have o3_b : ObjAt w3 (w.heap.size) 57 [.int .i64 s, .int .i64 r, .int .i64 h, .int .i64 t] := ObjAt.below (ObjAt.alloc (H2_b.out) _) hb3
        have o3_want : ObjAt w3 (w1.heap.size) 57 [.int .i64 0, .int .i64 0, .int .i64 0, .int .i64 0] := ObjAt.below (ObjAt.alloc (H2_want.out) _) hb3
        have o3_x : ObjAt w3 (w2.heap.size) 57 [.int .i64 0, .int .i64 0, .int .i64 0, .int .i64 0] := ObjAt.below (objNew (by simp)) hb3
        clear q2_b_0 q2_b_1 q2_b_2 q2_b_3 H2_b q2_want_0 f2_want_0 q2_want_1 f2_want_1 q2_want_2 f2_want_2 q2_want_3 f2_want_3 H2_want
        have q3_b_0 := o3_b.cell (i := 0) rfl
        have q3_b_1 := o3_b.cell (i := 1) rfl
        have q3_b_2 := o3_b.cell (i := 2) rfl
        have q3_b_3 := o3_b.cell (i := 3) rfl
        have l3_b := o3_b.lt
        have H3_b := hide o3_b
        clear o3_b
        have q3_want_0 := o3_want.cell (i := 0) rfl
        have f3_want_0 := o3_want.free 0
        have q3_want_1 := o3_want.cell (i := 1) rfl
        have f3_want_1 := o3_want.free 1
        have q3_want_2 := o3_want.cell (i := 2) rfl
        have f3_want_2 := o3_want.free 2
        have q3_want_3 := o3_want.cell (i := 3) rfl
        have f3_want_3 := o3_want.free 3
        have l3_want := o3_want.lt
        have H3_want := hide o3_want
        clear o3_want
        have q3_x_0 := o3_x.cell (i := 0) rfl
        have f3_x_0 := o3_x.free 0
        have q3_x_1 := o3_x.cell (i := 1) rfl
        have f3_x_1 := o3_x.free 1
        have q3_x_2 := o3_x.cell (i := 2) rfl
        have f3_x_2 := o3_x.free 2
        have q3_x_3 := o3_x.cell (i := 3) rfl
        have f3_x_3 := o3_x.free 3
        have l3_x := o3_x.lt
        have H3_x := hide o3_x
        clear o3_x
        have hy3 : w.heap.size ≤ w3.heap.size := hB3.size
        clear hb3
        go_wp2_with fail
        refine (TK.out _).mono ?_
        rintro e w4 ⟨rfl, hb4⟩
        have hB4 : Below w.heap.size w w4 := by
          refine Below.trans ?_ (Below.mono hb4 ?_)
          · go_grown
          · first | omega | (simp; done) | (simp; omega)
        have o4_b : ObjAt w4 (w.heap.size) 57 [.int .i64 s, .int .i64 r, .int .i64 h, .int .i64 t] := ObjAt.below (ObjAt.other4 (H3_b.out) (by omega)) hb4
        have o4_want : ObjAt w4 (w1.heap.size) 57 [.int .i64 0, .int .i64 0, .int .i64 0, .int .i64 0] := ObjAt.below (ObjAt.set4 (H3_want.out)) hb4
        have o4_x : ObjAt w4 (w2.heap.size) 57 [.int .i64 0, .int .i64 0, .int .i64 0, .int .i64 0] := ObjAt.below (ObjAt.other4 (H3_x.out) (by omega)) hb4
        clear q3_b_0 q3_b_1 q3_b_2 q3_b_3 H3_b q3_want_0 f3_want_0 q3_want_1 f3_want_1 q3_want_2 f3_want_2 q3_want_3 f3_want_3 H3_want q3_x_0 f3_x_0 q3_x_1 f3_x_1 q3_x_2 f3_x_2 q3_x_3 f3_x_3 H3_x
        have q4_b_0 := o4_b.cell (i := 0) rfl
        have q4_b_1 := o4_b.cell (i := 1) rfl
        have q4_b_2 := o4_b.cell (i := 2) rfl
        have q4_b_3 := o4_b.cell (i := 3) rfl
        have l4_b := o4_b.lt
        have H4_b := hide o4_b
        clear o4_b
        have q4_want_0 := o4_want.cell (i := 0) rfl
        have f4_want_0 := o4_want.free 0
        have q4_want_1 := o4_want.cell (i := 1) rfl
        have f4_want_1 := o4_want.free 1
        have q4_want_2 := o4_want.cell (i := 2) rfl
        have f4_want_2 := o4_want.free 2
        have q4_want_3 := o4_want.cell (i := 3) rfl
        have f4_want_3 := o4_want.free 3
        have l4_want := o4_want.lt
        have H4_want := hide o4_want
        clear o4_want
        have q4_x_0 := o4_x.cell (i := 0) rfl
        have f4_x_0 := o4_x.free 0
        have q4_x_1 := o4_x.cell (i := 1) rfl
        have f4_x_1 := o4_x.free 1
        have q4_x_2 := o4_x.cell (i := 2) rfl
        have f4_x_2 := o4_x.free 2
        have q4_x_3 := o4_x.cell (i := 3) rfl
        have f4_x_3 := o4_x.free 3
        have l4_x := o4_x.lt
        have H4_x := hide o4_x
        clear o4_x
        have hy4 : w.heap.size ≤ w4.heap.size := hB4.size
        clear hb4
        go_wp2_with fail
        refine (error_any c c _ (hE.below (B := w.heap.size) (by go_grown) hE.pos)).mono ?_
        rintro e w5 ⟨rfl, hb5⟩
        have hB5 : Below w.heap.size w w5 := by
          refine Below.trans ?_ (Below.mono hb5 ?_)
          · go_grown
          · first | omega | (simp; done) | (simp; omega)
        have o5_b : ObjAt w5 (w.heap.size) 57 [.int .i64 s, .int .i64 r, .int .i64 h, .int .i64 t] := ObjAt.below (ObjAt.other4 (H4_b.out) (by omega)) hb5
        have o5_want : ObjAt w5 (w1.heap.size) 57 [.int .i64 0, .int .i64 0, .int .i64 0, .int .i64 0] := ObjAt.below (ObjAt.other4 (H4_want.out) (by omega)) hb5
        have o5_x : ObjAt w5 (w2.heap.size) 57 [.int .i64 0, .int .i64 0, .int .i64 0, .int .i64 0] := ObjAt.below (ObjAt.set4 (H4_x.out)) hb5
        clear q4_b_0 q4_b_1 q4_b_2 q4_b_3 H4_b q4_want_0 f4_want_0 q4_want_1 f4_want_1 q4_want_2 f4_want_2 q4_want_3 f4_want_3 H4_want q4_x_0 f4_x_0 q4_x_1 f4_x_1 q4_x_2 f4_x_2 q4_x_3 f4_x_3 H4_x
        have q5_b_0 := o5_b.cell (i := 0) rfl
        have q5_b_1 := o5_b.cell (i := 1) rfl
        have q5_b_2 := o5_b.cell (i := 2) rfl
        have q5_b_3 := o5_b.cell (i := 3) rfl
        have l5_b := o5_b.lt
        have H5_b := hide o5_b
        clear o5_b
        have q5_want_0 := o5_want.cell (i := 0) rfl
        have f5_want_0 := o5_want.free 0
        have q5_want_1 := o5_want.cell (i := 1) rfl
        have f5_want_1 := o5_want.free 1
        have q5_want_2 := o5_want.cell (i := 2) rfl
        have f5_want_2 := o5_want.free 2
        have q5_want_3 := o5_want.cell (i := 3) rfl
        have f5_want_3 := o5_want.free 3
        have l5_want := o5_want.lt
        have H5_want := hide o5_want
        clear o5_want
        have q5_x_0 := o5_x.cell (i := 0) rfl
        have f5_x_0 := o5_x.free 0
        have q5_x_1 := o5_x.cell (i := 1) rfl
        have f5_x_1 := o5_x.free 1
        have q5_x_2 := o5_x.cell (i := 2) rfl
        have f5_x_2 := o5_x.free 2
        have q5_x_3 := o5_x.cell (i := 3) rfl
        have f5_x_3 := o5_x.free 3
        have l5_x := o5_x.lt
        have H5_x := hide o5_x
        clear o5_x
        have hy5 : w.heap.size ≤ w5.heap.size := hB5.size
        clear hb5
        go_wp2
        go_ret
        exact ⟨rfl, by go_grown⟩
end Go.Proofs.YtecdkdjenkgbfaaDoor
