/- bucket: Take by contract. -/
import Derived.Test.YtmbklchoplgdlaaBucketAt
import Derived.Deep.Cut
namespace Go.Proofs.Ytmbklchoplgdlaa
open Go.RowKit

/-- how many there are at a later time -/
def buckH (s r h t x : Int) : Int := min s (h + r * (x - t))
theorem buckH_in {s r h t x : Int} (hb : buckB s r h t = true) (hx : tmB x = true) (hxt : t ≤ x) : 0 ≤ buckH s r h t x ∧ buckH s r h t x ≤ s ∧ buckH s r h t x ≤ h + r * (x - t) := by
  obtain ⟨⟨h1, h2, h3, h4, h5, h6⟩, h7, h8⟩ := buckB_ok hb
  obtain ⟨h9, h10⟩ := tmB_true.1 hx
  obtain ⟨h11, h12⟩ := rate_le (r := r) (d := x - t) h3 h4 (by omega) (by omega)
  unfold buckH
  omega
/-- the fault of what is taken -/
def buckTE (s r h t x n : Int) : Int := if buckAtE s r h t x ≠ 0 then buckAtE s r h t x else if buB n = false then 1 else if buckH s r h t x < n then 4 else 0
theorem buckTE_cases (s r h t x n : Int) : (buckTE s r h t x n = 0 ∧ buckB s r h t = true ∧ tmB x = true ∧ t ≤ x ∧ (0 ≤ n ∧ n ≤ 100) ∧ n ≤ buckH s r h t x) ∨ buckTE s r h t x n ≠ 0 := by
  unfold buckTE
  rcases buckAtE_cases s r h t x with ⟨h0, h1, h2, h3⟩ | h0
  · rw [if_neg (by simp [h0])]
    cases hn : buB n
    · right; simp
    · by_cases g : buckH s r h t x < n
      · right; simp [g]
      · left
        refine ⟨by simp [g], h1, h2, h3, buB_true.1 hn, by omega⟩
  · right; rwa [if_pos h0]
set_option maxHeartbeats 1000000 in
theorem bucketTake_ok {s r h t x n : Int} (hb : buckB s r h t = true) (hx : tmB x = true) (hxt : t ≤ x) (hn : 0 ≤ n ∧ n ≤ 100) (hn2 : n ≤ buckH s r h t x) (w : World) :
    Calls Try.prog 13 #[.agg #[.int .i64 s, .int .i64 r, .int .i64 h, .int .i64 t], .int .i64 x, .int .i64 n] w fun e w' => e = .returned (.tuple #[.agg #[.int .i64 s, .int .i64 r, .int .i64 (buckH s r h t x - n), .int .i64 x], .nilIface]) ∧ Below w.heap.size w w' := by
  obtain ⟨z0, z1, _⟩ := buckH_in hb hx hxt
  obtain ⟨⟨h1, h2, h3, h4, h5, h6⟩, h7, h8⟩ := buckB_ok hb
  have A : Hid (∀ W, Calls Try.prog 34 #[.agg #[.int .i64 s, .int .i64 r, .int .i64 h, .int .i64 t], .int .i64 x] W fun e w' => e = .returned (.tuple #[.agg #[.int .i64 s, .int .i64 r, .int .i64 (buckH s r h t x), .int .i64 x], .nilIface]) ∧ Below W.heap.size W w') := bucketAt_ok hb hx hxt
  have U := hide (fun W => bucketBurst_eq (buB_true.2 hn) W)
  obtain ⟨n0, n1⟩ := hn
  obtain ⟨y, hy⟩ : ∃ y, y = buckH s r h t x := ⟨_, rfl⟩
  rw [← hy] at A hn2 z0 z1 ⊢
  clear hb hx hy
  go_enter Try.func13, Try.ntmps13
  go_wp2_with fail
  refine (A.out _).mono ?_
  rintro e w1 ⟨rfl, hb1⟩
  have hB1 : Below w.heap.size w w1 := by
    refine Below.trans ?_ (Below.mono hb1 ?_)
    · go_grown
    · first | omega | (simp; done) | (simp; omega)
  have hz1_0 : w.heap.size < w1.heap.size := by have := hb1.size; first | omega | (simp at this; omega)
  have hz1_1 : w.heap.size + 1 < w1.heap.size := by have := hb1.size; first | omega | (simp at this; omega)
  have hy1 : w.heap.size ≤ w1.heap.size := hB1.size
  obtain ⟨c1, d1⟩ := bcell hb1
  have x1 : ObjAt w1 w.heap.size 24 [.int .i64 s, .int .i64 r, .int .i64 h, .int .i64 t] := ObjAt.below (ObjAt.alloc (ObjAt.new _ _ _) _) hb1
  have y1 : ObjAt w1 (w.heap.size + 1) 24 [.int .i64 0, .int .i64 0, .int .i64 0, .int .i64 0] := ObjAt.below (objNew (by simp)) hb1
  have q0 := x1.cell (i := 0) rfl
  have f0 := x1.free 0
  have q1 := x1.cell (i := 1) rfl
  have f1 := x1.free 1
  have q2 := x1.cell (i := 2) rfl
  have f2 := x1.free 2
  have q3 := x1.cell (i := 3) rfl
  have f3 := x1.free 3
  have X1 := hide x1
  have Y1 := hide y1
  clear c1 d1 x1 y1 hb1
  go_wp2_with fail
  have X2 : ObjAt ((((w1.setCell ⟨w.heap.size, 0, none⟩ (.int .i64 s)).setCell ⟨w.heap.size, 1, none⟩ (.int .i64 r)).setCell ⟨w.heap.size, 2, none⟩ (.int .i64 y)).setCell ⟨w.heap.size, 3, none⟩ (.int .i64 x)) w.heap.size 24 [.int .i64 s, .int .i64 r, .int .i64 y, .int .i64 x] := (((X1.out.set 0 _).set 1 _).set 2 _).set 3 _
  have Y2 : ObjAt ((((w1.setCell ⟨w.heap.size, 0, none⟩ (.int .i64 s)).setCell ⟨w.heap.size, 1, none⟩ (.int .i64 r)).setCell ⟨w.heap.size, 2, none⟩ (.int .i64 y)).setCell ⟨w.heap.size, 3, none⟩ (.int .i64 x)) (w.heap.size + 1) 24 [.int .i64 0, .int .i64 0, .int .i64 0, .int .i64 0] := Y1.out.other4 (by omega)
  have B2 : Below w.heap.size w ((((w1.setCell ⟨w.heap.size, 0, none⟩ (.int .i64 s)).setCell ⟨w.heap.size, 1, none⟩ (.int .i64 r)).setCell ⟨w.heap.size, 2, none⟩ (.int .i64 y)).setCell ⟨w.heap.size, 3, none⟩ (.int .i64 x)) := by go_grown
  generalize ((((w1.setCell ⟨w.heap.size, 0, none⟩ (.int .i64 s)).setCell ⟨w.heap.size, 1, none⟩ (.int .i64 r)).setCell ⟨w.heap.size, 2, none⟩ (.int .i64 y)).setCell ⟨w.heap.size, 3, none⟩ (.int .i64 x)) = w2 at X2 Y2 B2 ⊢
  clear X1 Y1 q0 q1 q2 q3 f0 f1 f2 f3
  have hy2 : w.heap.size ≤ w2.heap.size := B2.size
  have hz2 : w.heap.size + 1 < w2.heap.size := Y2.lt
  have hz3 : w.heap.size < w2.heap.size := by omega
  have q0 := X2.cell (i := 0) rfl
  have f0 := X2.free 0
  have p0 := Y2.cell (i := 0) rfl
  have g0 := Y2.free 0
  have q1 := X2.cell (i := 1) rfl
  have f1 := X2.free 1
  have p1 := Y2.cell (i := 1) rfl
  have g1 := Y2.free 1
  have q2 := X2.cell (i := 2) rfl
  have f2 := X2.free 2
  have p2 := Y2.cell (i := 2) rfl
  have g2 := Y2.free 2
  have q3 := X2.cell (i := 3) rfl
  have f3 := X2.free 3
  have p3 := Y2.cell (i := 3) rfl
  have g3 := Y2.free 3
  clear X2 Y2
  refine (U.out _).mono ?_
  rintro e9 w9 ⟨rfl, rfl⟩
  go_wp2
  exact bodyPost_ret (v := .tuple #[.agg #[.int .i64 s, .int .i64 r, .int .i64 (y - n), .int .i64 x], .nilIface]) (by simp [results, Try.results13, go_sem, *]) rfl ⟨rfl, by go_grown⟩
set_option maxHeartbeats 1000000 in
theorem bucketTake_bad {s r h t x n c : Int} (hc : buckTE s r h t x n = c) (h0 : c ≠ 0) (w : World) :
    Calls Try.prog 13 #[.agg #[.int .i64 s, .int .i64 r, .int .i64 h, .int .i64 t], .int .i64 x, .int .i64 n] w fun e w' => e = .returned (.tuple #[.agg #[.int .i64 0, .int .i64 0, .int .i64 0, .int .i64 0], errV c]) ∧ Below w.heap.size w w' := by
  rcases buckAtE_cases s r h t x with ⟨ha, hb, hx, hxt⟩ | ha
  · obtain ⟨z0, z1, _⟩ := buckH_in hb hx hxt
    obtain ⟨⟨h1, h2, h3, h4, h5, h6⟩, h7, h8⟩ := buckB_ok hb
    have A : Hid (∀ W, Calls Try.prog 34 #[.agg #[.int .i64 s, .int .i64 r, .int .i64 h, .int .i64 t], .int .i64 x] W fun e w' => e = .returned (.tuple #[.agg #[.int .i64 s, .int .i64 r, .int .i64 (buckH s r h t x), .int .i64 x], .nilIface]) ∧ Below W.heap.size W w') := bucketAt_ok hb hx hxt
    cases hn : buB n
    · obtain rfl : c = 1 := by rw [← hc]; unfold buckTE; rw [if_neg (by simp [ha]), if_pos hn]
      have U := hide (fun W => bucketBurst_eq hn W)
      obtain ⟨y, hy⟩ : ∃ y, y = buckH s r h t x := ⟨_, rfl⟩
      rw [← hy] at A z0 z1
      clear hb hx hy hn hc h0 ha
      go_enter Try.func13, Try.ntmps13
      go_wp2_with fail
      refine (A.out _).mono ?_
      rintro e w1 ⟨rfl, hb1⟩
      have hB1 : Below w.heap.size w w1 := by
        refine Below.trans ?_ (Below.mono hb1 ?_)
        · go_grown
        · first | omega | (simp; done) | (simp; omega)
      have hz1_0 : w.heap.size < w1.heap.size := by have := hb1.size; first | omega | (simp at this; omega)
      have hz1_1 : w.heap.size + 1 < w1.heap.size := by have := hb1.size; first | omega | (simp at this; omega)
      have hy1 : w.heap.size ≤ w1.heap.size := hB1.size
      obtain ⟨c1, d1⟩ := bcell hb1
      have x1 : ObjAt w1 w.heap.size 24 [.int .i64 s, .int .i64 r, .int .i64 h, .int .i64 t] := ObjAt.below (ObjAt.alloc (ObjAt.new _ _ _) _) hb1
      have y1 : ObjAt w1 (w.heap.size + 1) 24 [.int .i64 0, .int .i64 0, .int .i64 0, .int .i64 0] := ObjAt.below (objNew (by simp)) hb1
      have q0 := x1.cell (i := 0) rfl
      have f0 := x1.free 0
      have q1 := x1.cell (i := 1) rfl
      have f1 := x1.free 1
      have q2 := x1.cell (i := 2) rfl
      have f2 := x1.free 2
      have q3 := x1.cell (i := 3) rfl
      have f3 := x1.free 3
      have X1 := hide x1
      have Y1 := hide y1
      clear c1 d1 x1 y1 hb1
      go_wp2_with fail
      have X2 : ObjAt ((((w1.setCell ⟨w.heap.size, 0, none⟩ (.int .i64 s)).setCell ⟨w.heap.size, 1, none⟩ (.int .i64 r)).setCell ⟨w.heap.size, 2, none⟩ (.int .i64 y)).setCell ⟨w.heap.size, 3, none⟩ (.int .i64 x)) w.heap.size 24 [.int .i64 s, .int .i64 r, .int .i64 y, .int .i64 x] := (((X1.out.set 0 _).set 1 _).set 2 _).set 3 _
      have Y2 : ObjAt ((((w1.setCell ⟨w.heap.size, 0, none⟩ (.int .i64 s)).setCell ⟨w.heap.size, 1, none⟩ (.int .i64 r)).setCell ⟨w.heap.size, 2, none⟩ (.int .i64 y)).setCell ⟨w.heap.size, 3, none⟩ (.int .i64 x)) (w.heap.size + 1) 24 [.int .i64 0, .int .i64 0, .int .i64 0, .int .i64 0] := Y1.out.other4 (by omega)
      have B2 : Below w.heap.size w ((((w1.setCell ⟨w.heap.size, 0, none⟩ (.int .i64 s)).setCell ⟨w.heap.size, 1, none⟩ (.int .i64 r)).setCell ⟨w.heap.size, 2, none⟩ (.int .i64 y)).setCell ⟨w.heap.size, 3, none⟩ (.int .i64 x)) := by go_grown
      generalize ((((w1.setCell ⟨w.heap.size, 0, none⟩ (.int .i64 s)).setCell ⟨w.heap.size, 1, none⟩ (.int .i64 r)).setCell ⟨w.heap.size, 2, none⟩ (.int .i64 y)).setCell ⟨w.heap.size, 3, none⟩ (.int .i64 x)) = w2 at X2 Y2 B2 ⊢
      clear X1 Y1 q0 q1 q2 q3 f0 f1 f2 f3
      have hy2 : w.heap.size ≤ w2.heap.size := B2.size
      have hz2 : w.heap.size + 1 < w2.heap.size := Y2.lt
      have hz3 : w.heap.size < w2.heap.size := by omega
      have q0 := X2.cell (i := 0) rfl
      have f0 := X2.free 0
      have p0 := Y2.cell (i := 0) rfl
      have g0 := Y2.free 0
      have q1 := X2.cell (i := 1) rfl
      have f1 := X2.free 1
      have p1 := Y2.cell (i := 1) rfl
      have g1 := Y2.free 1
      have q2 := X2.cell (i := 2) rfl
      have f2 := X2.free 2
      have p2 := Y2.cell (i := 2) rfl
      have g2 := Y2.free 2
      have q3 := X2.cell (i := 3) rfl
      have f3 := X2.free 3
      have p3 := Y2.cell (i := 3) rfl
      have g3 := Y2.free 3
      clear X2 Y2
      refine (U.out _).mono ?_
      rintro e9 w9 ⟨rfl, rfl⟩
      go_wp2
      exact bodyPost_ret (v := .tuple #[.agg #[.int .i64 0, .int .i64 0, .int .i64 0, .int .i64 0], .iface 83 (.int .i64 1)]) (by simp [results, Try.results13, go_sem, *]) rfl ⟨rfl, by go_grown⟩
    · have U := hide (fun W => bucketBurst_eq hn W)
      have hlt : buckH s r h t x < n := by
        rcases Int.lt_or_le (buckH s r h t x) n with g | g
        · exact g
        · exact absurd (by rw [← hc]; unfold buckTE; rw [if_neg (by simp [ha]), if_neg (by simp [hn]), if_neg (by omega)]) h0
      obtain rfl : c = 4 := by rw [← hc]; unfold buckTE; rw [if_neg (by simp [ha]), if_neg (by simp [hn]), if_pos hlt]
      obtain ⟨y, hy⟩ : ∃ y, y = buckH s r h t x := ⟨_, rfl⟩
      rw [← hy] at A z0 z1 hlt
      clear hb hx hy hn hc h0 ha
      go_enter Try.func13, Try.ntmps13
      go_wp2_with fail
      refine (A.out _).mono ?_
      rintro e w1 ⟨rfl, hb1⟩
      have hB1 : Below w.heap.size w w1 := by
        refine Below.trans ?_ (Below.mono hb1 ?_)
        · go_grown
        · first | omega | (simp; done) | (simp; omega)
      have hz1_0 : w.heap.size < w1.heap.size := by have := hb1.size; first | omega | (simp at this; omega)
      have hz1_1 : w.heap.size + 1 < w1.heap.size := by have := hb1.size; first | omega | (simp at this; omega)
      have hy1 : w.heap.size ≤ w1.heap.size := hB1.size
      obtain ⟨c1, d1⟩ := bcell hb1
      have x1 : ObjAt w1 w.heap.size 24 [.int .i64 s, .int .i64 r, .int .i64 h, .int .i64 t] := ObjAt.below (ObjAt.alloc (ObjAt.new _ _ _) _) hb1
      have y1 : ObjAt w1 (w.heap.size + 1) 24 [.int .i64 0, .int .i64 0, .int .i64 0, .int .i64 0] := ObjAt.below (objNew (by simp)) hb1
      have q0 := x1.cell (i := 0) rfl
      have f0 := x1.free 0
      have q1 := x1.cell (i := 1) rfl
      have f1 := x1.free 1
      have q2 := x1.cell (i := 2) rfl
      have f2 := x1.free 2
      have q3 := x1.cell (i := 3) rfl
      have f3 := x1.free 3
      have X1 := hide x1
      have Y1 := hide y1
      clear c1 d1 x1 y1 hb1
      go_wp2_with fail
      have X2 : ObjAt ((((w1.setCell ⟨w.heap.size, 0, none⟩ (.int .i64 s)).setCell ⟨w.heap.size, 1, none⟩ (.int .i64 r)).setCell ⟨w.heap.size, 2, none⟩ (.int .i64 y)).setCell ⟨w.heap.size, 3, none⟩ (.int .i64 x)) w.heap.size 24 [.int .i64 s, .int .i64 r, .int .i64 y, .int .i64 x] := (((X1.out.set 0 _).set 1 _).set 2 _).set 3 _
      have Y2 : ObjAt ((((w1.setCell ⟨w.heap.size, 0, none⟩ (.int .i64 s)).setCell ⟨w.heap.size, 1, none⟩ (.int .i64 r)).setCell ⟨w.heap.size, 2, none⟩ (.int .i64 y)).setCell ⟨w.heap.size, 3, none⟩ (.int .i64 x)) (w.heap.size + 1) 24 [.int .i64 0, .int .i64 0, .int .i64 0, .int .i64 0] := Y1.out.other4 (by omega)
      have B2 : Below w.heap.size w ((((w1.setCell ⟨w.heap.size, 0, none⟩ (.int .i64 s)).setCell ⟨w.heap.size, 1, none⟩ (.int .i64 r)).setCell ⟨w.heap.size, 2, none⟩ (.int .i64 y)).setCell ⟨w.heap.size, 3, none⟩ (.int .i64 x)) := by go_grown
      generalize ((((w1.setCell ⟨w.heap.size, 0, none⟩ (.int .i64 s)).setCell ⟨w.heap.size, 1, none⟩ (.int .i64 r)).setCell ⟨w.heap.size, 2, none⟩ (.int .i64 y)).setCell ⟨w.heap.size, 3, none⟩ (.int .i64 x)) = w2 at X2 Y2 B2 ⊢
      clear X1 Y1 q0 q1 q2 q3 f0 f1 f2 f3
      have hy2 : w.heap.size ≤ w2.heap.size := B2.size
      have hz2 : w.heap.size + 1 < w2.heap.size := Y2.lt
      have hz3 : w.heap.size < w2.heap.size := by omega
      have q0 := X2.cell (i := 0) rfl
      have f0 := X2.free 0
      have p0 := Y2.cell (i := 0) rfl
      have g0 := Y2.free 0
      have q1 := X2.cell (i := 1) rfl
      have f1 := X2.free 1
      have p1 := Y2.cell (i := 1) rfl
      have g1 := Y2.free 1
      have q2 := X2.cell (i := 2) rfl
      have f2 := X2.free 2
      have p2 := Y2.cell (i := 2) rfl
      have g2 := Y2.free 2
      have q3 := X2.cell (i := 3) rfl
      have f3 := X2.free 3
      have p3 := Y2.cell (i := 3) rfl
      have g3 := Y2.free 3
      clear X2 Y2
      refine (U.out _).mono ?_
      rintro e9 w9 ⟨rfl, rfl⟩
      go_wp2
      exact bodyPost_ret (v := .tuple #[.agg #[.int .i64 0, .int .i64 0, .int .i64 0, .int .i64 0], .iface 83 (.int .i64 4)]) (by simp [results, Try.results13, go_sem, *]) rfl ⟨rfl, by go_grown⟩
  · have e1 : buckAtE s r h t x = c := by rw [← hc]; unfold buckTE; rw [if_pos ha]
    have A := hide (fun W => bucketAt_bad e1 h0 W)
    have t1 : (c != 0) = true := bne_iff_ne.2 h0
    clear ha e1 hc h0
    go_enter Try.func13, Try.ntmps13
    go_wp2_with fail
    refine (A.out _).mono ?_
    rintro e w1 ⟨rfl, hb1⟩
    have hB1 : Below w.heap.size w w1 := by
      refine Below.trans ?_ (Below.mono hb1 ?_)
      · go_grown
      · first | omega | (simp; done) | (simp; omega)
    have hz1_0 : w.heap.size < w1.heap.size := by have := hb1.size; first | omega | (simp at this; omega)
    have hz1_1 : w.heap.size + 1 < w1.heap.size := by have := hb1.size; first | omega | (simp at this; omega)
    have hy1 : w.heap.size ≤ w1.heap.size := hB1.size
    obtain ⟨c1, d1⟩ := bcell hb1
    have x1 : ObjAt w1 w.heap.size 24 [.int .i64 s, .int .i64 r, .int .i64 h, .int .i64 t] := ObjAt.below (ObjAt.alloc (ObjAt.new _ _ _) _) hb1
    have y1 : ObjAt w1 (w.heap.size + 1) 24 [.int .i64 0, .int .i64 0, .int .i64 0, .int .i64 0] := ObjAt.below (objNew (by simp)) hb1
    have q0 := x1.cell (i := 0) rfl
    have f0 := x1.free 0
    have q1 := x1.cell (i := 1) rfl
    have f1 := x1.free 1
    have q2 := x1.cell (i := 2) rfl
    have f2 := x1.free 2
    have q3 := x1.cell (i := 3) rfl
    have f3 := x1.free 3
    have X1 := hide x1
    have Y1 := hide y1
    clear c1 d1 x1 y1 hb1
    go_upto_if 15 with (fail)
    have X2 : ObjAt ((((w1.setCell ⟨w.heap.size, 0, none⟩ (.int .i64 0)).setCell ⟨w.heap.size, 1, none⟩ (.int .i64 0)).setCell ⟨w.heap.size, 2, none⟩ (.int .i64 0)).setCell ⟨w.heap.size, 3, none⟩ (.int .i64 0)) w.heap.size 24 [.int .i64 0, .int .i64 0, .int .i64 0, .int .i64 0] := (((X1.out.set 0 _).set 1 _).set 2 _).set 3 _
    have Y2 : ObjAt ((((w1.setCell ⟨w.heap.size, 0, none⟩ (.int .i64 0)).setCell ⟨w.heap.size, 1, none⟩ (.int .i64 0)).setCell ⟨w.heap.size, 2, none⟩ (.int .i64 0)).setCell ⟨w.heap.size, 3, none⟩ (.int .i64 0)) (w.heap.size + 1) 24 [.int .i64 0, .int .i64 0, .int .i64 0, .int .i64 0] := Y1.out.other4 (by omega)
    have B2 : Below w.heap.size w ((((w1.setCell ⟨w.heap.size, 0, none⟩ (.int .i64 0)).setCell ⟨w.heap.size, 1, none⟩ (.int .i64 0)).setCell ⟨w.heap.size, 2, none⟩ (.int .i64 0)).setCell ⟨w.heap.size, 3, none⟩ (.int .i64 0)) := by go_grown
    generalize ((((w1.setCell ⟨w.heap.size, 0, none⟩ (.int .i64 0)).setCell ⟨w.heap.size, 1, none⟩ (.int .i64 0)).setCell ⟨w.heap.size, 2, none⟩ (.int .i64 0)).setCell ⟨w.heap.size, 3, none⟩ (.int .i64 0)) = w2 at X2 Y2 B2 ⊢
    clear X1 Y1 q0 q1 q2 q3 f0 f1 f2 f3
    have hy2 : w.heap.size ≤ w2.heap.size := B2.size
    have hz2 : w.heap.size + 1 < w2.heap.size := Y2.lt
    have hz3 : w.heap.size < w2.heap.size := by omega
    have q0 := X2.cell (i := 0) rfl
    have f0 := X2.free 0
    have p0 := Y2.cell (i := 0) rfl
    have g0 := Y2.free 0
    have q1 := X2.cell (i := 1) rfl
    have f1 := X2.free 1
    have p1 := Y2.cell (i := 1) rfl
    have g1 := Y2.free 1
    have q2 := X2.cell (i := 2) rfl
    have f2 := X2.free 2
    have p2 := Y2.cell (i := 2) rfl
    have g2 := Y2.free 2
    have q3 := X2.cell (i := 3) rfl
    have f3 := X2.free 3
    have p3 := Y2.cell (i := 3) rfl
    have g3 := Y2.free 3
    clear X2 Y2
    go_wp2
    exact bodyPost_ret (v := .tuple #[.agg #[.int .i64 0, .int .i64 0, .int .i64 0, .int .i64 0], errV c]) (by simp [results, Try.results13, go_sem, *]) rfl ⟨rfl, by go_grown⟩
end Go.Proofs.Ytmbklchoplgdlaa
