/- bucket: At by contract. -/
import Derived.Test.YtmbklchoplgdlaaBucket
import Derived.WalkLawsBesides
namespace Go.Proofs.Ytmbklchoplgdlaa
open Go.RowKit

theorem buckB_ok {s r h t : Int} (hb : buckB s r h t = true) : (1 ≤ s ∧ s ≤ 100 ∧ 0 ≤ r ∧ r ≤ 100 ∧ 0 ≤ h ∧ h ≤ s) ∧ (0 ≤ t ∧ t ≤ 100000) := by
  simp only [buckB, Bool.and_eq_true, decide_eq_true_eq] at hb
  exact ⟨hb.1, tmB_true.1 hb.2⟩
theorem rate_le {r d : Int} (h0 : 0 ≤ r) (h1 : r ≤ 100) (h2 : 0 ≤ d) (h3 : d ≤ 100000) : 0 ≤ r * d ∧ r * d ≤ 10000000 :=
  ⟨Int.mul_nonneg h0 h2, Int.le_trans (Int.mul_le_mul h1 h3 h2 (by decide)) (by decide)⟩
set_option maxHeartbeats 1000000 in
theorem bucketAt_ok {s r h t x : Int} (hb : buckB s r h t = true) (hx : tmB x = true) (hxt : t ≤ x) (w : World) :
    Calls Try.prog 34 #[.agg #[.int .i64 s, .int .i64 r, .int .i64 h, .int .i64 t], .int .i64 x] w fun e w' => e = .returned (.tuple #[.agg #[.int .i64 s, .int .i64 r, .int .i64 (min s (h + r * (x - t))), .int .i64 x], .nilIface]) ∧ Below w.heap.size w w' := by
  have C := hide (fun W => bucketCheck_ok hb W)
  have T := hide (fun W => tokenTime_eq hx W)
  obtain ⟨⟨h1, h2, h3, h4, h5, h6⟩, h7, h8⟩ := buckB_ok hb
  obtain ⟨h9, h10⟩ := tmB_true.1 hx
  obtain ⟨h11, h12⟩ := rate_le (r := r) (d := x - t) h3 h4 (by omega) (by omega)
  clear hb hx
  have hmin : h + r * (x - t) < s ∨ s ≤ h + r * (x - t) := by omega
  rcases hmin with hm | hm
  · have e1 : min s (h + r * (x - t)) = h + r * (x - t) := by omega
    rw [e1]
    clear e1
    go_enter Try.func34, Try.ntmps34
    go_wp2_with fail
    refine (C.out _).mono ?_
    rintro e w1 ⟨rfl, hb1⟩
    have hB1 : Below w.heap.size w w1 := by
      refine Below.trans ?_ (Below.mono hb1 ?_)
      · go_grown
      · first | omega | (simp; done) | (simp; omega)
    have hz1_0 : w.heap.size < w1.heap.size := by have := hb1.size; first | omega | (simp at this; omega)
    have hz1_1 : w.heap.size + 1 < w1.heap.size := by have := hb1.size; first | omega | (simp at this; omega)
    have hy1 : w.heap.size ≤ w1.heap.size := hB1.size
    obtain ⟨c1, d1⟩ := bcell hb1
    have x1 : ObjAt w1 w.heap.size 24 [.int .i64 s, .int .i64 r, .int .i64 h, .int .i64 t] := ObjAt.below (ObjAt.alloc (ObjAt.new _ _ _) _) hb1
    have y1 : ObjAt w1 (w.heap.size + 1) 24 [.int .i64 0, .int .i64 0, .int .i64 0, .int .i64 0] := ObjAt.below (objNew (by simp)) hb1
    have q0 := x1.cell (i := 0) rfl
    have f0 := x1.free 0
    have p0 := y1.cell (i := 0) rfl
    have g0 := y1.free 0
    have q1 := x1.cell (i := 1) rfl
    have f1 := x1.free 1
    have p1 := y1.cell (i := 1) rfl
    have g1 := y1.free 1
    have q2 := x1.cell (i := 2) rfl
    have f2 := x1.free 2
    have p2 := y1.cell (i := 2) rfl
    have g2 := y1.free 2
    have q3 := x1.cell (i := 3) rfl
    have f3 := x1.free 3
    have p3 := y1.cell (i := 3) rfl
    have g3 := y1.free 3
    clear c1 d1 x1 y1 hb1
    go_wp2_with fail
    refine (T.out _).mono ?_
    rintro e w102 ⟨rfl, rfl⟩
    go_wp2
    exact bodyPost_ret (v := .tuple #[.agg #[.int .i64 s, .int .i64 r, .int .i64 (h + r * (x - t)), .int .i64 x], .nilIface]) (by simp [results, Try.results34, go_sem, *]) rfl ⟨rfl, by go_grown⟩
  · have e1 : min s (h + r * (x - t)) = s := by omega
    rw [e1]
    clear e1
    go_enter Try.func34, Try.ntmps34
    go_wp2_with fail
    refine (C.out _).mono ?_
    rintro e w1 ⟨rfl, hb1⟩
    have hB1 : Below w.heap.size w w1 := by
      refine Below.trans ?_ (Below.mono hb1 ?_)
      · go_grown
      · first | omega | (simp; done) | (simp; omega)
    have hz1_0 : w.heap.size < w1.heap.size := by have := hb1.size; first | omega | (simp at this; omega)
    have hz1_1 : w.heap.size + 1 < w1.heap.size := by have := hb1.size; first | omega | (simp at this; omega)
    have hy1 : w.heap.size ≤ w1.heap.size := hB1.size
    obtain ⟨c1, d1⟩ := bcell hb1
    have x1 : ObjAt w1 w.heap.size 24 [.int .i64 s, .int .i64 r, .int .i64 h, .int .i64 t] := ObjAt.below (ObjAt.alloc (ObjAt.new _ _ _) _) hb1
    have y1 : ObjAt w1 (w.heap.size + 1) 24 [.int .i64 0, .int .i64 0, .int .i64 0, .int .i64 0] := ObjAt.below (objNew (by simp)) hb1
    have q0 := x1.cell (i := 0) rfl
    have f0 := x1.free 0
    have p0 := y1.cell (i := 0) rfl
    have g0 := y1.free 0
    have q1 := x1.cell (i := 1) rfl
    have f1 := x1.free 1
    have p1 := y1.cell (i := 1) rfl
    have g1 := y1.free 1
    have q2 := x1.cell (i := 2) rfl
    have f2 := x1.free 2
    have p2 := y1.cell (i := 2) rfl
    have g2 := y1.free 2
    have q3 := x1.cell (i := 3) rfl
    have f3 := x1.free 3
    have p3 := y1.cell (i := 3) rfl
    have g3 := y1.free 3
    clear c1 d1 x1 y1 hb1
    go_wp2_with fail
    refine (T.out _).mono ?_
    rintro e w102 ⟨rfl, rfl⟩
    go_wp2
    exact bodyPost_ret (v := .tuple #[.agg #[.int .i64 s, .int .i64 r, .int .i64 (s), .int .i64 x], .nilIface]) (by simp [results, Try.results34, go_sem, *]) rfl ⟨rfl, by go_grown⟩
/-- the fault of a bucket at a time -/
def buckAtE (s r h t x : Int) : Int := if buckB s r h t = false then 1 else if tmB x = false then 1 else if x < t then 9 else 0
set_option maxHeartbeats 1000000 in
theorem bucketAt_bad {s r h t x c : Int} (hc : buckAtE s r h t x = c) (h0 : c ≠ 0) (w : World) :
    Calls Try.prog 34 #[.agg #[.int .i64 s, .int .i64 r, .int .i64 h, .int .i64 t], .int .i64 x] w fun e w' => e = .returned (.tuple #[.agg #[.int .i64 0, .int .i64 0, .int .i64 0, .int .i64 0], errV c]) ∧ Below w.heap.size w w' := by
  cases hb : buckB s r h t
  · obtain rfl : c = 1 := by rw [← hc]; unfold buckAtE; rw [if_pos hb]
    have C := hide (fun W => bucketCheck_bad hb W)
    clear hb hc h0
    go_enter Try.func34, Try.ntmps34
    go_wp2_with fail
    refine (C.out _).mono ?_
    rintro e w1 ⟨rfl, hb1⟩
    have hB1 : Below w.heap.size w w1 := by
      refine Below.trans ?_ (Below.mono hb1 ?_)
      · go_grown
      · first | omega | (simp; done) | (simp; omega)
    have hz1_0 : w.heap.size < w1.heap.size := by have := hb1.size; first | omega | (simp at this; omega)
    have hz1_1 : w.heap.size + 1 < w1.heap.size := by have := hb1.size; first | omega | (simp at this; omega)
    have hy1 : w.heap.size ≤ w1.heap.size := hB1.size
    obtain ⟨c1, d1⟩ := bcell hb1
    have x1 : ObjAt w1 w.heap.size 24 [.int .i64 s, .int .i64 r, .int .i64 h, .int .i64 t] := ObjAt.below (ObjAt.alloc (ObjAt.new _ _ _) _) hb1
    have y1 : ObjAt w1 (w.heap.size + 1) 24 [.int .i64 0, .int .i64 0, .int .i64 0, .int .i64 0] := ObjAt.below (objNew (by simp)) hb1
    have q0 := x1.cell (i := 0) rfl
    have f0 := x1.free 0
    have p0 := y1.cell (i := 0) rfl
    have g0 := y1.free 0
    have q1 := x1.cell (i := 1) rfl
    have f1 := x1.free 1
    have p1 := y1.cell (i := 1) rfl
    have g1 := y1.free 1
    have q2 := x1.cell (i := 2) rfl
    have f2 := x1.free 2
    have p2 := y1.cell (i := 2) rfl
    have g2 := y1.free 2
    have q3 := x1.cell (i := 3) rfl
    have f3 := x1.free 3
    have p3 := y1.cell (i := 3) rfl
    have g3 := y1.free 3
    clear c1 d1 x1 y1 hb1
    go_wp2
    exact bodyPost_ret (v := .tuple #[.agg #[.int .i64 0, .int .i64 0, .int .i64 0, .int .i64 0], .iface 83 (.int .i64 1)]) (by simp [results, Try.results34, go_sem, *]) rfl ⟨rfl, by go_grown⟩
  · have C := hide (fun W => bucketCheck_ok hb W)
    cases hx : tmB x
    · obtain rfl : c = 1 := by rw [← hc]; unfold buckAtE; rw [if_neg (by simp [hb]), if_pos hx]
      have T := hide (fun W => tokenTime_eq hx W)
      clear hb hx hc h0
      go_enter Try.func34, Try.ntmps34
      go_wp2_with fail
      refine (C.out _).mono ?_
      rintro e w1 ⟨rfl, hb1⟩
      have hB1 : Below w.heap.size w w1 := by
        refine Below.trans ?_ (Below.mono hb1 ?_)
        · go_grown
        · first | omega | (simp; done) | (simp; omega)
      have hz1_0 : w.heap.size < w1.heap.size := by have := hb1.size; first | omega | (simp at this; omega)
      have hz1_1 : w.heap.size + 1 < w1.heap.size := by have := hb1.size; first | omega | (simp at this; omega)
      have hy1 : w.heap.size ≤ w1.heap.size := hB1.size
      obtain ⟨c1, d1⟩ := bcell hb1
      have x1 : ObjAt w1 w.heap.size 24 [.int .i64 s, .int .i64 r, .int .i64 h, .int .i64 t] := ObjAt.below (ObjAt.alloc (ObjAt.new _ _ _) _) hb1
      have y1 : ObjAt w1 (w.heap.size + 1) 24 [.int .i64 0, .int .i64 0, .int .i64 0, .int .i64 0] := ObjAt.below (objNew (by simp)) hb1
      have q0 := x1.cell (i := 0) rfl
      have f0 := x1.free 0
      have p0 := y1.cell (i := 0) rfl
      have g0 := y1.free 0
      have q1 := x1.cell (i := 1) rfl
      have f1 := x1.free 1
      have p1 := y1.cell (i := 1) rfl
      have g1 := y1.free 1
      have q2 := x1.cell (i := 2) rfl
      have f2 := x1.free 2
      have p2 := y1.cell (i := 2) rfl
      have g2 := y1.free 2
      have q3 := x1.cell (i := 3) rfl
      have f3 := x1.free 3
      have p3 := y1.cell (i := 3) rfl
      have g3 := y1.free 3
      clear c1 d1 x1 y1 hb1
      go_wp2_with fail
      refine (T.out _).mono ?_
      rintro e w102 ⟨rfl, rfl⟩
      go_wp2
      exact bodyPost_ret (v := .tuple #[.agg #[.int .i64 0, .int .i64 0, .int .i64 0, .int .i64 0], .iface 83 (.int .i64 1)]) (by simp [results, Try.results34, go_sem, *]) rfl ⟨rfl, by go_grown⟩
    · have T := hide (fun W => tokenTime_eq hx W)
      have hlt : x < t := by
        rcases Int.lt_or_le x t with g | g
        · exact g
        · exact absurd (by rw [← hc]; unfold buckAtE; rw [if_neg (by simp [hb]), if_neg (by simp [hx]), if_neg (by omega)]) h0
      obtain rfl : c = 9 := by rw [← hc]; unfold buckAtE; rw [if_neg (by simp [hb]), if_neg (by simp [hx]), if_pos hlt]
      clear hb hx hc h0
      go_enter Try.func34, Try.ntmps34
      go_wp2_with fail
      refine (C.out _).mono ?_
      rintro e w1 ⟨rfl, hb1⟩
      have hB1 : Below w.heap.size w w1 := by
        refine Below.trans ?_ (Below.mono hb1 ?_)
        · go_grown
        · first | omega | (simp; done) | (simp; omega)
      have hz1_0 : w.heap.size < w1.heap.size := by have := hb1.size; first | omega | (simp at this; omega)
      have hz1_1 : w.heap.size + 1 < w1.heap.size := by have := hb1.size; first | omega | (simp at this; omega)
      have hy1 : w.heap.size ≤ w1.heap.size := hB1.size
      obtain ⟨c1, d1⟩ := bcell hb1
      have x1 : ObjAt w1 w.heap.size 24 [.int .i64 s, .int .i64 r, .int .i64 h, .int .i64 t] := ObjAt.below (ObjAt.alloc (ObjAt.new _ _ _) _) hb1
      have y1 : ObjAt w1 (w.heap.size + 1) 24 [.int .i64 0, .int .i64 0, .int .i64 0, .int .i64 0] := ObjAt.below (objNew (by simp)) hb1
      have q0 := x1.cell (i := 0) rfl
      have f0 := x1.free 0
      have p0 := y1.cell (i := 0) rfl
      have g0 := y1.free 0
      have q1 := x1.cell (i := 1) rfl
      have f1 := x1.free 1
      have p1 := y1.cell (i := 1) rfl
      have g1 := y1.free 1
      have q2 := x1.cell (i := 2) rfl
      have f2 := x1.free 2
      have p2 := y1.cell (i := 2) rfl
      have g2 := y1.free 2
      have q3 := x1.cell (i := 3) rfl
      have f3 := x1.free 3
      have p3 := y1.cell (i := 3) rfl
      have g3 := y1.free 3
      clear c1 d1 x1 y1 hb1
      go_wp2_with fail
      refine (T.out _).mono ?_
      rintro e w102 ⟨rfl, rfl⟩
      go_wp2
      exact bodyPost_ret (v := .tuple #[.agg #[.int .i64 0, .int .i64 0, .int .i64 0, .int .i64 0], .iface 83 (.int .i64 9)]) (by simp [results, Try.results34, go_sem, *]) rfl ⟨rfl, by go_grown⟩
theorem buckAtE_cases (s r h t x : Int) : (buckAtE s r h t x = 0 ∧ buckB s r h t = true ∧ tmB x = true ∧ t ≤ x) ∨ buckAtE s r h t x ≠ 0 := by
  unfold buckAtE
  cases hb : buckB s r h t
  · right; simp
  · cases hx : tmB x
    · right; simp
    · by_cases g : x < t
      · right; simp [g]
      · left; simp [g]; omega
end Go.Proofs.Ytmbklchoplgdlaa
