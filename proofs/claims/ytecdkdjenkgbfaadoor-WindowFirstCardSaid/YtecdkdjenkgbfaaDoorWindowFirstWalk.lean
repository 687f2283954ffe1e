/- The walk of WindowFirst. -/
import Derived.Test.YtecdkdjenkgbfaaDoorWindowT
import Derived.Test.YtecdkdjenkgbfaaDoorErr
namespace Go.Proofs.YtecdkdjenkgbfaaDoor
open Go.RowKit

set_option maxHeartbeats 1000000 in
theorem walkWindowFirst (w : World) (n : Int) (_w0 : (Lit.int .i64 n).wf = true) (hE : ErrT w) :
    Calls Tryd.prog 7 #[.int .i64 n] w fun e w' => e = .returned (.bool true) ∧ Below w.heap.size w w' := by
  clear _w0
  have NW := hide (fun W => windowNew W)
  cases ht : tmB n
  · have TK : Hid (∀ W, Calls Tryd.prog 27 #[.agg #[.int .i64 (-1), .int .i64 0], .int .i64 n] W fun e w' => e = .returned (.tuple #[.agg #[.int .i64 0, .int .i64 0], .iface 107 (.int .i64 1)]) ∧ Below W.heap.size W w') :=
      hide (windowTake_bad (c := 1) (by unfold winTE; rw [if_neg (by decide), if_pos ht]) (by omega))
    have hc := tmB_false.1 ht
    clear ht
    rcases hc with hc | hc
    all_goals
      go_enter Tryd.func7, Tryd.ntmps7
      go_wp2_with fail
      refine (NW.out _).mono ?_
      rintro e w1 ⟨rfl, hb1⟩
      have hB1 : Below w.heap.size w w1 := by
        refine Below.trans ?_ (Below.mono hb1 ?_)
        · go_grown
        · first | omega | (simp; done) | (simp; omega)
      have hy1 : w.heap.size ≤ w1.heap.size := hB1.size
      clear hb1
      go_wp2_with fail
      refine (TK.out _).mono ?_
      rintro e w2 ⟨rfl, hb2⟩
      have hB2 : Below w.heap.size w w2 := by
        refine Below.trans ?_ (Below.mono hb2 ?_)
        · go_grown
        · first | omega | (simp; done) | (simp; omega)
      have hy2 : w.heap.size ≤ w2.heap.size := hB2.size
      clear hb2
      go_wp2
      go_ret
      first | exact ⟨rfl, hB2.alloc hB2.size _⟩ | exact ⟨retB (a := decide (n < 0) || decide (100000 < n)) (by simp; omega), hB2.alloc hB2.size _⟩
  · obtain ⟨n0, n1⟩ := tmB_true.1 ht
    have hu : winUp (-1) 0 n = 1 := by unfold winUp; split <;> simp
    have TK : Hid (∀ W, Calls Tryd.prog 27 #[.agg #[.int .i64 (-1), .int .i64 0], .int .i64 n] W fun e w' => e = .returned (.tuple #[.agg #[.int .i64 n, .int .i64 1], .nilIface]) ∧ Below W.heap.size W w') := by
      intro W
      have g := windowTake_up (T := -1) (b := 0) (n := n) (by decide) ht (by omega) W
      rw [hu] at g
      exact g
    have hw : winE n 1 = 0 := by
      unfold winE
      rw [if_neg (by omega), if_neg (by omega), if_neg (by decide), if_neg]
      rintro ⟨h1, h2⟩
      apply h2
      apply Int.ediv_eq_zero_of_lt (by decide)
      have h3 : 2 ^ 1 ≤ 2 ^ (n + 1).toNat := Nat.pow_le_pow_right (by decide) (by omega)
      rw [int_pow]
      omega
    by_cases h32 : n < 32
    · have T2 : Hid (∀ W, Calls Tryd.prog 27 #[.agg #[.int .i64 n, .int .i64 1], .int .i64 (n - 32)] W fun e w' => e = .returned (.tuple #[.agg #[.int .i64 0, .int .i64 0], .iface 107 (.int .i64 1)]) ∧ Below W.heap.size W w') :=
        hide (windowTake_bad (c := 1) (by unfold winTE; rw [if_neg (by simp [hw]), if_pos (tmB_false.2 (by omega))]) (by omega))
      clear hw hu ht
      go_enter Tryd.func7, Tryd.ntmps7
      go_wp2_with fail
      refine (NW.out _).mono ?_
      rintro e w1 ⟨rfl, hb1⟩
      have hB1 : Below w.heap.size w w1 := by
        refine Below.trans ?_ (Below.mono hb1 ?_)
        · go_grown
        · first | omega | (simp; done) | (simp; omega)
      have hy1 : w.heap.size ≤ w1.heap.size := hB1.size
      clear hb1
      go_wp2_with fail
      refine (TK.out _).mono ?_
      rintro e w2 ⟨rfl, hb2⟩
      have hB2 : Below w.heap.size w w2 := by
        refine Below.trans ?_ (Below.mono hb2 ?_)
        · go_grown
        · first | omega | (simp; done) | (simp; omega)
      have hy2 : w.heap.size ≤ w2.heap.size := hB2.size
      clear hb2
      go_wp2_with fail
      refine (T2.out _).mono ?_
      rintro e w3 ⟨rfl, hb3⟩
      have hB3 : Below w.heap.size w w3 := by
        refine Below.trans ?_ (Below.mono hb3 ?_)
        · go_grown
        · first | omega | (simp; done) | (simp; omega)
      have o3_x : ObjAt w3 (w2.heap.size) 45 [.int .i64 n, .int .i64 1] := ObjAt.below (objNew (by simp)) hb3
      have q3_x_0 := o3_x.cell (i := 0) rfl
      have q3_x_1 := o3_x.cell (i := 1) rfl
      have l3_x := o3_x.lt
      have H3_x := hide o3_x
      clear o3_x
      have hy3 : w.heap.size ≤ w3.heap.size := hB3.size
      clear hb3
      go_wp2_with fail
      refine (error_any 1 1 _ (hE.below (B := w.heap.size) (by go_grown) hE.pos)).mono ?_
      rintro e w4 ⟨rfl, hb4⟩
      have hB4 : Below w.heap.size w w4 := by
        refine Below.trans ?_ (Below.mono hb4 ?_)
        · go_grown
        · first | omega | (simp; done) | (simp; omega)
      have o4_x : ObjAt w4 (w2.heap.size) 45 [.int .i64 n, .int .i64 1] := ObjAt.below (ObjAt.alloc (H3_x.out) _) hb4
      clear q3_x_0 q3_x_1 H3_x
      have q4_x_0 := o4_x.cell (i := 0) rfl
      have q4_x_1 := o4_x.cell (i := 1) rfl
      have l4_x := o4_x.lt
      have H4_x := hide o4_x
      clear o4_x
      have hy4 : w.heap.size ≤ w4.heap.size := hB4.size
      clear hb4
      go_wp2
      go_ret
      exact ⟨rfl, by go_grown⟩
    · have T2 : Hid (∀ W, Calls Tryd.prog 27 #[.agg #[.int .i64 n, .int .i64 1], .int .i64 (n - 32)] W fun e w' => e = .returned (.tuple #[.agg #[.int .i64 0, .int .i64 0], .iface 107 (.int .i64 9)]) ∧ Below W.heap.size W w') :=
        hide (windowTake_bad (c := 9) (by unfold winTE; rw [if_neg (by simp [hw]), if_neg (by rw [tmB_true.2 (by omega)]; simp), if_neg (by omega), if_pos (by omega)]) (by omega))
      clear hw hu ht
      have h33 : 32 ≤ n := by omega
      clear h32
      go_enter Tryd.func7, Tryd.ntmps7
      go_wp2_with fail
      refine (NW.out _).mono ?_
      rintro e w1 ⟨rfl, hb1⟩
      have hB1 : Below w.heap.size w w1 := by
        refine Below.trans ?_ (Below.mono hb1 ?_)
        · go_grown
        · first | omega | (simp; done) | (simp; omega)
      have hy1 : w.heap.size ≤ w1.heap.size := hB1.size
      clear hb1
      go_wp2_with fail
      refine (TK.out _).mono ?_
      rintro e w2 ⟨rfl, hb2⟩
      have hB2 : Below w.heap.size w w2 := by
        refine Below.trans ?_ (Below.mono hb2 ?_)
        · go_grown
        · first | omega | (simp; done) | (simp; omega)
      have hy2 : w.heap.size ≤ w2.heap.size := hB2.size
      clear hb2
      go_wp2_with fail
      refine (T2.out _).mono ?_
      rintro e w3 ⟨rfl, hb3⟩
      have hB3 : Below w.heap.size w w3 := by
        refine Below.trans ?_ (Below.mono hb3 ?_)
        · go_grown
        · first | omega | (simp; done) | (simp; omega)
      have o3_x : ObjAt w3 (w2.heap.size) 45 [.int .i64 n, .int .i64 1] := ObjAt.below (objNew (by simp)) hb3
      have q3_x_0 := o3_x.cell (i := 0) rfl
      have q3_x_1 := o3_x.cell (i := 1) rfl
      have l3_x := o3_x.lt
      have H3_x := hide o3_x
      clear o3_x
      have hy3 : w.heap.size ≤ w3.heap.size := hB3.size
      clear hb3
      go_wp2_with fail
      refine (error_any 9 9 _ (hE.below (B := w.heap.size) (by go_grown) hE.pos)).mono ?_
      rintro e w4 ⟨rfl, hb4⟩
      have hB4 : Below w.heap.size w w4 := by
        refine Below.trans ?_ (Below.mono hb4 ?_)
        · go_grown
        · first | omega | (simp; done) | (simp; omega)
      have o4_x : ObjAt w4 (w2.heap.size) 45 [.int .i64 n, .int .i64 1] := ObjAt.below (ObjAt.alloc (H3_x.out) _) hb4
      clear q3_x_0 q3_x_1 H3_x
      have q4_x_0 := o4_x.cell (i := 0) rfl
      have q4_x_1 := o4_x.cell (i := 1) rfl
      have l4_x := o4_x.lt
      have H4_x := hide o4_x
      clear o4_x
      have hy4 : w.heap.size ≤ w4.heap.size := hB4.size
      clear hb4
      go_wp2
      go_ret
      exact ⟨rfl, by go_grown⟩
end Go.Proofs.YtecdkdjenkgbfaaDoor
