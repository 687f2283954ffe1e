/- The walk of ConnTells. -/
import Derived.Test.YtnfgeidiglldkaaDoorRConn
import Derived.Test.YtnfgeidiglldkaaDoorErr
namespace Go.Proofs.YtnfgeidiglldkaaDoor
open Go.RowKit

set_option maxRecDepth 100000 in
set_option maxHeartbeats 4000000 in
theorem walkConnTells (w : World) (s m : Int) (_w1 : (Lit.int .i64 s).wf = true) (_w2 : (Lit.int .i64 m).wf = true) (n : Int) (_w0 : (Lit.int .i64 n).wf = true) (sh : Int) (_w3 : (Lit.int .i64 sh).wf = true) (hE : ErrT w) :
    Calls Tryd.prog 7 #[.agg #[.int .i64 s, .int .i64 m], .int .i64 n, .int .i64 sh] w fun e w' => e = .returned (.bool true) ∧ Below w.heap.size w w' := by
  clear _w0 _w1 _w2 _w3
  have RC := hide (fun W => rConn s m W)
  have hn : n < 0 ∨ (0 ≤ n ∧ 65535 < n) ∨ (0 ≤ n ∧ n ≤ 65535 ∧ sh < 1) ∨ (0 ≤ n ∧ n ≤ 65535 ∧ 1 ≤ sh ∧ 16 < sh) ∨ (0 ≤ n ∧ n ≤ 65535 ∧ 1 ≤ sh ∧ sh ≤ 16) := by omega
  cases hc : connB s m
  · rw [hc] at RC
    have NM : Hid (∀ W, Calls Tryd.prog 24 #[.agg #[.int .i64 s, .int .i64 m]] W fun e w' => e = .returned (.tuple #[.int .i64 0, .iface 68 (.int .i64 1)]) ∧ Below W.heap.size W w') := hide (connNumber_eq (c := 1) (by simp [connNum, hc]))
    clear hc
    rcases hn with h | ⟨h1, h2⟩ | ⟨h1, h2, h3⟩ | ⟨h1, h2, h3, h4⟩ | ⟨h1, h2, h3, h4⟩
    · have OF : Hid (∀ W, Calls Tryd.prog 26 #[.int .i64 n] W fun e w' => e = .returned (.tuple #[.agg #[.int .i64 0, .int .i64 0], .iface 68 (.int .i64 1)]) ∧ Below W.heap.size W w') := hide (connOf_eq (c := 1) (by unfold connOfN; rw [if_neg (by omega)]))
      have RT : Hid (∀ W, Calls Tryd.prog 27 #[.int .i64 n, .int .i64 sh] W fun e w' => e = .returned (.tuple #[.int .i64 0, .iface 68 (.int .i64 1)]) ∧ Below W.heap.size W w') := hide (connRoute_eq (c := 1) (by unfold routeN; rw [if_neg (by omega)]))
      go_enter Tryd.func7, Tryd.ntmps7
      go_wp2_with fail
      refine (RC.out _).mono ?_
      rintro e w1 ⟨rfl, hb1⟩
      have hB1 : Below w.heap.size w w1 := by
        refine Below.trans ?_ (Below.mono hb1 ?_)
        · go_grown
        · first | omega | (simp; done) | (simp; omega)
      have hz1_0 : w.heap.size < w1.heap.size := by have := hb1.size; first | omega | (simp at this; omega)
      have hy1 : w.heap.size ≤ w1.heap.size := hB1.size
      obtain ⟨c1, d1⟩ := bcell hb1
      go_wp2_with fail
      refine (NM.out _).mono ?_
      rintro e w2 ⟨rfl, hb2⟩
      have hB2 : Below w.heap.size w w2 := by
        refine Below.trans ?_ (Below.mono hb2 ?_)
        · go_grown
        · first | omega | (simp; done) | (simp; omega)
      have hz2_0 : w.heap.size < w2.heap.size := by have := hb2.size; first | omega | (simp at this; omega)
      have hy2 : w.heap.size ≤ w2.heap.size := hB2.size
      obtain ⟨c2, d2⟩ := bcell hb2
      go_wp2_with fail
      refine (error_any 1 1 _ (hE.below (B := w.heap.size) (by go_grown) hE.pos)).mono ?_
      rintro e w3 ⟨rfl, hb3⟩
      have hB3 : Below w.heap.size w w3 := by
        refine Below.trans ?_ (Below.mono hb3 ?_)
        · go_grown
        · first | omega | (simp; done) | (simp; omega)
      have hz3_0 : w.heap.size < w3.heap.size := by have := hb3.size; first | omega | (simp at this; omega)
      have hy3 : w.heap.size ≤ w3.heap.size := hB3.size
      obtain ⟨c3, d3⟩ := bcell hb3
      go_wp2_with fail
      refine (OF.out _).mono ?_
      rintro e w4 ⟨rfl, hb4⟩
      have hB4 : Below w.heap.size w w4 := by
        refine Below.trans ?_ (Below.mono hb4 ?_)
        · go_grown
        · first | omega | (simp; done) | (simp; omega)
      have hz4_0 : w.heap.size < w4.heap.size := by have := hb4.size; first | omega | (simp at this; omega)
      have hl4_w3 : w3.heap.size < w4.heap.size := by have := hb4.size; first | omega | (simp at this; omega)
      have hy4 : w.heap.size ≤ w4.heap.size := hB4.size
      obtain ⟨c4, d4⟩ := bcell hb4
      go_wp2_with fail
      refine (error_any 1 1 _ (hE.below (B := w.heap.size) (by go_grown) hE.pos)).mono ?_
      rintro e w5 ⟨rfl, hb5⟩
      have hB5 : Below w.heap.size w w5 := by
        refine Below.trans ?_ (Below.mono hb5 ?_)
        · go_grown
        · first | omega | (simp; done) | (simp; omega)
      have hz5_0 : w.heap.size < w5.heap.size := by have := hb5.size; first | omega | (simp at this; omega)
      have hl5_w3 : w3.heap.size < w5.heap.size := by have := hb5.size; first | omega | (simp at this; omega)
      have hl5_w4 : w4.heap.size < w5.heap.size := by have := hb5.size; first | omega | (simp at this; omega)
      have hy5 : w.heap.size ≤ w5.heap.size := hB5.size
      obtain ⟨c5, d5⟩ := bcell hb5
      go_wp2_with fail
      refine (RT.out _).mono ?_
      rintro e w6 ⟨rfl, hb6⟩
      have hB6 : Below w.heap.size w w6 := by
        refine Below.trans ?_ (Below.mono hb6 ?_)
        · go_grown
        · first | omega | (simp; done) | (simp; omega)
      have hz6_0 : w.heap.size < w6.heap.size := by have := hb6.size; first | omega | (simp at this; omega)
      have hl6_w3 : w3.heap.size < w6.heap.size := by have := hb6.size; first | omega | (simp at this; omega)
      have hl6_w4 : w4.heap.size < w6.heap.size := by have := hb6.size; first | omega | (simp at this; omega)
      have hy6 : w.heap.size ≤ w6.heap.size := hB6.size
      obtain ⟨c6, d6⟩ := bcell hb6
      go_wp2_with fail
      refine (error_any 1 1 _ (hE.below (B := w.heap.size) (by go_grown) hE.pos)).mono ?_
      rintro e w7 ⟨rfl, hb7⟩
      have hB7 : Below w.heap.size w w7 := by
        refine Below.trans ?_ (Below.mono hb7 ?_)
        · go_grown
        · first | omega | (simp; done) | (simp; omega)
      have hz7_0 : w.heap.size < w7.heap.size := by have := hb7.size; first | omega | (simp at this; omega)
      have hl7_w3 : w3.heap.size < w7.heap.size := by have := hb7.size; first | omega | (simp at this; omega)
      have hl7_w4 : w4.heap.size < w7.heap.size := by have := hb7.size; first | omega | (simp at this; omega)
      have hy7 : w.heap.size ≤ w7.heap.size := hB7.size
      obtain ⟨c7, d7⟩ := bcell hb7
      go_wp2
      go_ret
      exact ⟨rfl, by go_grown⟩
    · have OF : Hid (∀ W, Calls Tryd.prog 26 #[.int .i64 n] W fun e w' => e = .returned (.tuple #[.agg #[.int .i64 0, .int .i64 0], .iface 68 (.int .i64 1)]) ∧ Below W.heap.size W w') := hide (connOf_eq (c := 1) (by unfold connOfN; rw [if_neg (by omega)]))
      have RT : Hid (∀ W, Calls Tryd.prog 27 #[.int .i64 n, .int .i64 sh] W fun e w' => e = .returned (.tuple #[.int .i64 0, .iface 68 (.int .i64 1)]) ∧ Below W.heap.size W w') := hide (connRoute_eq (c := 1) (by unfold routeN; rw [if_neg (by omega)]))
      go_enter Tryd.func7, Tryd.ntmps7
      go_wp2_with fail
      refine (RC.out _).mono ?_
      rintro e w1 ⟨rfl, hb1⟩
      have hB1 : Below w.heap.size w w1 := by
        refine Below.trans ?_ (Below.mono hb1 ?_)
        · go_grown
        · first | omega | (simp; done) | (simp; omega)
      have hz1_0 : w.heap.size < w1.heap.size := by have := hb1.size; first | omega | (simp at this; omega)
      have hy1 : w.heap.size ≤ w1.heap.size := hB1.size
      obtain ⟨c1, d1⟩ := bcell hb1
      go_wp2_with fail
      refine (NM.out _).mono ?_
      rintro e w2 ⟨rfl, hb2⟩
      have hB2 : Below w.heap.size w w2 := by
        refine Below.trans ?_ (Below.mono hb2 ?_)
        · go_grown
        · first | omega | (simp; done) | (simp; omega)
      have hz2_0 : w.heap.size < w2.heap.size := by have := hb2.size; first | omega | (simp at this; omega)
      have hy2 : w.heap.size ≤ w2.heap.size := hB2.size
      obtain ⟨c2, d2⟩ := bcell hb2
      go_wp2_with fail
      refine (error_any 1 1 _ (hE.below (B := w.heap.size) (by go_grown) hE.pos)).mono ?_
      rintro e w3 ⟨rfl, hb3⟩
      have hB3 : Below w.heap.size w w3 := by
        refine Below.trans ?_ (Below.mono hb3 ?_)
        · go_grown
        · first | omega | (simp; done) | (simp; omega)
      have hz3_0 : w.heap.size < w3.heap.size := by have := hb3.size; first | omega | (simp at this; omega)
      have hy3 : w.heap.size ≤ w3.heap.size := hB3.size
      obtain ⟨c3, d3⟩ := bcell hb3
      go_wp2_with fail
      refine (OF.out _).mono ?_
      rintro e w4 ⟨rfl, hb4⟩
      have hB4 : Below w.heap.size w w4 := by
        refine Below.trans ?_ (Below.mono hb4 ?_)
        · go_grown
        · first | omega | (simp; done) | (simp; omega)
      have hz4_0 : w.heap.size < w4.heap.size := by have := hb4.size; first | omega | (simp at this; omega)
      have hl4_w3 : w3.heap.size < w4.heap.size := by have := hb4.size; first | omega | (simp at this; omega)
      have hy4 : w.heap.size ≤ w4.heap.size := hB4.size
      obtain ⟨c4, d4⟩ := bcell hb4
      go_wp2_with fail
      refine (error_any 1 1 _ (hE.below (B := w.heap.size) (by go_grown) hE.pos)).mono ?_
      rintro e w5 ⟨rfl, hb5⟩
      have hB5 : Below w.heap.size w w5 := by
        refine Below.trans ?_ (Below.mono hb5 ?_)
        · go_grown
        · first | omega | (simp; done) | (simp; omega)
      have hz5_0 : w.heap.size < w5.heap.size := by have := hb5.size; first | omega | (simp at this; omega)
      have hl5_w3 : w3.heap.size < w5.heap.size := by have := hb5.size; first | omega | (simp at this; omega)
      have hl5_w4 : w4.heap.size < w5.heap.size := by have := hb5.size; first | omega | (simp at this; omega)
      have hy5 : w.heap.size ≤ w5.heap.size := hB5.size
      obtain ⟨c5, d5⟩ := bcell hb5
      go_wp2_with fail
      refine (RT.out _).mono ?_
      rintro e w6 ⟨rfl, hb6⟩
      have hB6 : Below w.heap.size w w6 := by
        refine Below.trans ?_ (Below.mono hb6 ?_)
        · go_grown
        · first | omega | (simp; done) | (simp; omega)
      have hz6_0 : w.heap.size < w6.heap.size := by have := hb6.size; first | omega | (simp at this; omega)
      have hl6_w3 : w3.heap.size < w6.heap.size := by have := hb6.size; first | omega | (simp at this; omega)
      have hl6_w4 : w4.heap.size < w6.heap.size := by have := hb6.size; first | omega | (simp at this; omega)
      have hy6 : w.heap.size ≤ w6.heap.size := hB6.size
      obtain ⟨c6, d6⟩ := bcell hb6
      go_wp2_with fail
      refine (error_any 1 1 _ (hE.below (B := w.heap.size) (by go_grown) hE.pos)).mono ?_
      rintro e w7 ⟨rfl, hb7⟩
      have hB7 : Below w.heap.size w w7 := by
        refine Below.trans ?_ (Below.mono hb7 ?_)
        · go_grown
        · first | omega | (simp; done) | (simp; omega)
      have hz7_0 : w.heap.size < w7.heap.size := by have := hb7.size; first | omega | (simp at this; omega)
      have hl7_w3 : w3.heap.size < w7.heap.size := by have := hb7.size; first | omega | (simp at this; omega)
      have hl7_w4 : w4.heap.size < w7.heap.size := by have := hb7.size; first | omega | (simp at this; omega)
      have hy7 : w.heap.size ≤ w7.heap.size := hB7.size
      obtain ⟨c7, d7⟩ := bcell hb7
      go_wp2
      go_ret
      exact ⟨rfl, by go_grown⟩
    · obtain ⟨k, hk⟩ : ∃ k, k = ((xn n.toNat : Nat) : Int) := ⟨_, rfl⟩
      have hkl := xn_lt n.toNat (by omega)
      have k0 : 0 ≤ k ∧ k < 65536 := by omega
      have TU : Hid (∀ W, Calls Tryd.prog 25 #[.int .i64 n] W fun e w' => e = .returned (.int .i64 k) ∧ W = w') := by
        intro W; have g := rTurned n.toNat W (by omega)
        rwa [← hk, show ((n.toNat : Nat) : Int) = n by omega] at g
      have hof : connOfN n = (k / 4096, k % 4096, 0) := by unfold connOfN; rw [if_pos (by omega), hk]
      have OF : Hid (∀ W, Calls Tryd.prog 26 #[.int .i64 n] W fun e w' => e = .returned (.tuple #[.agg #[.int .i64 (k / 4096), .int .i64 (k % 4096)], .nilIface]) ∧ Below W.heap.size W w') := hide (connOf_eq (c := 0) hof)
      have RT : Hid (∀ W, Calls Tryd.prog 27 #[.int .i64 n, .int .i64 sh] W fun e w' => e = .returned (.tuple #[.int .i64 0, .iface 68 (.int .i64 1)]) ∧ Below W.heap.size W w') := hide (connRoute_eq (c := 1) (by unfold routeN; rw [if_neg (by omega)]))
      obtain ⟨k0, k1⟩ := k0
      have p0 : 0 ≤ k / 4096 := by omega
      have p1 : k / 4096 < 16 := by omega
      clear hk hkl hof
      go_enter Tryd.func7, Tryd.ntmps7
      go_wp2_with fail
      refine (RC.out _).mono ?_
      rintro e w1 ⟨rfl, hb1⟩
      have hB1 : Below w.heap.size w w1 := by
        refine Below.trans ?_ (Below.mono hb1 ?_)
        · go_grown
        · first | omega | (simp; done) | (simp; omega)
      have hz1_0 : w.heap.size < w1.heap.size := by have := hb1.size; first | omega | (simp at this; omega)
      have hy1 : w.heap.size ≤ w1.heap.size := hB1.size
      obtain ⟨c1, d1⟩ := bcell hb1
      go_wp2_with fail
      refine (NM.out _).mono ?_
      rintro e w2 ⟨rfl, hb2⟩
      have hB2 : Below w.heap.size w w2 := by
        refine Below.trans ?_ (Below.mono hb2 ?_)
        · go_grown
        · first | omega | (simp; done) | (simp; omega)
      have hz2_0 : w.heap.size < w2.heap.size := by have := hb2.size; first | omega | (simp at this; omega)
      have hy2 : w.heap.size ≤ w2.heap.size := hB2.size
      obtain ⟨c2, d2⟩ := bcell hb2
      go_wp2_with fail
      refine (error_any 1 1 _ (hE.below (B := w.heap.size) (by go_grown) hE.pos)).mono ?_
      rintro e w3 ⟨rfl, hb3⟩
      have hB3 : Below w.heap.size w w3 := by
        refine Below.trans ?_ (Below.mono hb3 ?_)
        · go_grown
        · first | omega | (simp; done) | (simp; omega)
      have hz3_0 : w.heap.size < w3.heap.size := by have := hb3.size; first | omega | (simp at this; omega)
      have hy3 : w.heap.size ≤ w3.heap.size := hB3.size
      obtain ⟨c3, d3⟩ := bcell hb3
      go_wp2_with fail
      refine (TU.out _).mono ?_
      rintro e w104 ⟨rfl, rfl⟩
      go_wp2_with fail
      refine (OF.out _).mono ?_
      rintro e w5 ⟨rfl, hb5⟩
      have hB5 : Below w.heap.size w w5 := by
        refine Below.trans ?_ (Below.mono hb5 ?_)
        · go_grown
        · first | omega | (simp; done) | (simp; omega)
      have hz5_0 : w.heap.size < w5.heap.size := by have := hb5.size; first | omega | (simp at this; omega)
      have hl5_w3 : w3.heap.size < w5.heap.size := by have := hb5.size; first | omega | (simp at this; omega)
      have hy5 : w.heap.size ≤ w5.heap.size := hB5.size
      obtain ⟨c5, d5⟩ := bcell hb5
      go_wp2_with fail
      refine (error_any 0 0 _ (hE.below (B := w.heap.size) (by go_grown) hE.pos)).mono ?_
      rintro e w6 ⟨rfl, hb6⟩
      have hB6 : Below w.heap.size w w6 := by
        refine Below.trans ?_ (Below.mono hb6 ?_)
        · go_grown
        · first | omega | (simp; done) | (simp; omega)
      have hz6_0 : w.heap.size < w6.heap.size := by have := hb6.size; first | omega | (simp at this; omega)
      have hl6_w3 : w3.heap.size < w6.heap.size := by have := hb6.size; first | omega | (simp at this; omega)
      have hl6_w5 : w5.heap.size < w6.heap.size := by have := hb6.size; first | omega | (simp at this; omega)
      have hy6 : w.heap.size ≤ w6.heap.size := hB6.size
      obtain ⟨c6, d6⟩ := bcell hb6
      go_wp2_with fail
      refine (RT.out _).mono ?_
      rintro e w7 ⟨rfl, hb7⟩
      have hB7 : Below w.heap.size w w7 := by
        refine Below.trans ?_ (Below.mono hb7 ?_)
        · go_grown
        · first | omega | (simp; done) | (simp; omega)
      have hz7_0 : w.heap.size < w7.heap.size := by have := hb7.size; first | omega | (simp at this; omega)
      have hl7_w3 : w3.heap.size < w7.heap.size := by have := hb7.size; first | omega | (simp at this; omega)
      have hl7_w5 : w5.heap.size < w7.heap.size := by have := hb7.size; first | omega | (simp at this; omega)
      have hy7 : w.heap.size ≤ w7.heap.size := hB7.size
      obtain ⟨c7, d7⟩ := bcell hb7
      go_wp2_with fail
      refine (error_any 1 1 _ (hE.below (B := w.heap.size) (by go_grown) hE.pos)).mono ?_
      rintro e w8 ⟨rfl, hb8⟩
      have hB8 : Below w.heap.size w w8 := by
        refine Below.trans ?_ (Below.mono hb8 ?_)
        · go_grown
        · first | omega | (simp; done) | (simp; omega)
      have hz8_0 : w.heap.size < w8.heap.size := by have := hb8.size; first | omega | (simp at this; omega)
      have hl8_w3 : w3.heap.size < w8.heap.size := by have := hb8.size; first | omega | (simp at this; omega)
      have hl8_w5 : w5.heap.size < w8.heap.size := by have := hb8.size; first | omega | (simp at this; omega)
      have hy8 : w.heap.size ≤ w8.heap.size := hB8.size
      obtain ⟨c8, d8⟩ := bcell hb8
      go_wp2
      go_ret
      exact ⟨rfl, by go_grown⟩
    · obtain ⟨k, hk⟩ : ∃ k, k = ((xn n.toNat : Nat) : Int) := ⟨_, rfl⟩
      have hkl := xn_lt n.toNat (by omega)
      have k0 : 0 ≤ k ∧ k < 65536 := by omega
      have TU : Hid (∀ W, Calls Tryd.prog 25 #[.int .i64 n] W fun e w' => e = .returned (.int .i64 k) ∧ W = w') := by
        intro W; have g := rTurned n.toNat W (by omega)
        rwa [← hk, show ((n.toNat : Nat) : Int) = n by omega] at g
      have hof : connOfN n = (k / 4096, k % 4096, 0) := by unfold connOfN; rw [if_pos (by omega), hk]
      have OF : Hid (∀ W, Calls Tryd.prog 26 #[.int .i64 n] W fun e w' => e = .returned (.tuple #[.agg #[.int .i64 (k / 4096), .int .i64 (k % 4096)], .nilIface]) ∧ Below W.heap.size W w') := hide (connOf_eq (c := 0) hof)
      have RT : Hid (∀ W, Calls Tryd.prog 27 #[.int .i64 n, .int .i64 sh] W fun e w' => e = .returned (.tuple #[.int .i64 0, .iface 68 (.int .i64 1)]) ∧ Below W.heap.size W w') := hide (connRoute_eq (c := 1) (by unfold routeN; rw [if_neg (by omega)]))
      obtain ⟨k0, k1⟩ := k0
      have p0 : 0 ≤ k / 4096 := by omega
      have p1 : k / 4096 < 16 := by omega
      clear hk hkl hof
      go_enter Tryd.func7, Tryd.ntmps7
      go_wp2_with fail
      refine (RC.out _).mono ?_
      rintro e w1 ⟨rfl, hb1⟩
      have hB1 : Below w.heap.size w w1 := by
        refine Below.trans ?_ (Below.mono hb1 ?_)
        · go_grown
        · first | omega | (simp; done) | (simp; omega)
      have hz1_0 : w.heap.size < w1.heap.size := by have := hb1.size; first | omega | (simp at this; omega)
      have hy1 : w.heap.size ≤ w1.heap.size := hB1.size
      obtain ⟨c1, d1⟩ := bcell hb1
      go_wp2_with fail
      refine (NM.out _).mono ?_
      rintro e w2 ⟨rfl, hb2⟩
      have hB2 : Below w.heap.size w w2 := by
        refine Below.trans ?_ (Below.mono hb2 ?_)
        · go_grown
        · first | omega | (simp; done) | (simp; omega)
      have hz2_0 : w.heap.size < w2.heap.size := by have := hb2.size; first | omega | (simp at this; omega)
      have hy2 : w.heap.size ≤ w2.heap.size := hB2.size
      obtain ⟨c2, d2⟩ := bcell hb2
      go_wp2_with fail
      refine (error_any 1 1 _ (hE.below (B := w.heap.size) (by go_grown) hE.pos)).mono ?_
      rintro e w3 ⟨rfl, hb3⟩
      have hB3 : Below w.heap.size w w3 := by
        refine Below.trans ?_ (Below.mono hb3 ?_)
        · go_grown
        · first | omega | (simp; done) | (simp; omega)
      have hz3_0 : w.heap.size < w3.heap.size := by have := hb3.size; first | omega | (simp at this; omega)
      have hy3 : w.heap.size ≤ w3.heap.size := hB3.size
      obtain ⟨c3, d3⟩ := bcell hb3
      go_wp2_with fail
      refine (TU.out _).mono ?_
      rintro e w104 ⟨rfl, rfl⟩
      go_wp2_with fail
      refine (OF.out _).mono ?_
      rintro e w5 ⟨rfl, hb5⟩
      have hB5 : Below w.heap.size w w5 := by
        refine Below.trans ?_ (Below.mono hb5 ?_)
        · go_grown
        · first | omega | (simp; done) | (simp; omega)
      have hz5_0 : w.heap.size < w5.heap.size := by have := hb5.size; first | omega | (simp at this; omega)
      have hl5_w3 : w3.heap.size < w5.heap.size := by have := hb5.size; first | omega | (simp at this; omega)
      have hy5 : w.heap.size ≤ w5.heap.size := hB5.size
      obtain ⟨c5, d5⟩ := bcell hb5
      go_wp2_with fail
      refine (error_any 0 0 _ (hE.below (B := w.heap.size) (by go_grown) hE.pos)).mono ?_
      rintro e w6 ⟨rfl, hb6⟩
      have hB6 : Below w.heap.size w w6 := by
        refine Below.trans ?_ (Below.mono hb6 ?_)
        · go_grown
        · first | omega | (simp; done) | (simp; omega)
      have hz6_0 : w.heap.size < w6.heap.size := by have := hb6.size; first | omega | (simp at this; omega)
      have hl6_w3 : w3.heap.size < w6.heap.size := by have := hb6.size; first | omega | (simp at this; omega)
      have hl6_w5 : w5.heap.size < w6.heap.size := by have := hb6.size; first | omega | (simp at this; omega)
      have hy6 : w.heap.size ≤ w6.heap.size := hB6.size
      obtain ⟨c6, d6⟩ := bcell hb6
      go_wp2_with fail
      refine (RT.out _).mono ?_
      rintro e w7 ⟨rfl, hb7⟩
      have hB7 : Below w.heap.size w w7 := by
        refine Below.trans ?_ (Below.mono hb7 ?_)
        · go_grown
        · first | omega | (simp; done) | (simp; omega)
      have hz7_0 : w.heap.size < w7.heap.size := by have := hb7.size; first | omega | (simp at this; omega)
      have hl7_w3 : w3.heap.size < w7.heap.size := by have := hb7.size; first | omega | (simp at this; omega)
      have hl7_w5 : w5.heap.size < w7.heap.size := by have := hb7.size; first | omega | (simp at this; omega)
      have hy7 : w.heap.size ≤ w7.heap.size := hB7.size
      obtain ⟨c7, d7⟩ := bcell hb7
      go_wp2_with fail
      refine (error_any 1 1 _ (hE.below (B := w.heap.size) (by go_grown) hE.pos)).mono ?_
      rintro e w8 ⟨rfl, hb8⟩
      have hB8 : Below w.heap.size w w8 := by
        refine Below.trans ?_ (Below.mono hb8 ?_)
        · go_grown
        · first | omega | (simp; done) | (simp; omega)
      have hz8_0 : w.heap.size < w8.heap.size := by have := hb8.size; first | omega | (simp at this; omega)
      have hl8_w3 : w3.heap.size < w8.heap.size := by have := hb8.size; first | omega | (simp at this; omega)
      have hl8_w5 : w5.heap.size < w8.heap.size := by have := hb8.size; first | omega | (simp at this; omega)
      have hy8 : w.heap.size ≤ w8.heap.size := hB8.size
      obtain ⟨c8, d8⟩ := bcell hb8
      go_wp2
      go_ret
      exact ⟨rfl, by go_grown⟩
    · obtain ⟨k, hk⟩ : ∃ k, k = ((xn n.toNat : Nat) : Int) := ⟨_, rfl⟩
      have hkl := xn_lt n.toNat (by omega)
      have k0 : 0 ≤ k ∧ k < 65536 := by omega
      have TU : Hid (∀ W, Calls Tryd.prog 25 #[.int .i64 n] W fun e w' => e = .returned (.int .i64 k) ∧ W = w') := by
        intro W; have g := rTurned n.toNat W (by omega)
        rwa [← hk, show ((n.toNat : Nat) : Int) = n by omega] at g
      have hof : connOfN n = (k / 4096, k % 4096, 0) := by unfold connOfN; rw [if_pos (by omega), hk]
      have OF : Hid (∀ W, Calls Tryd.prog 26 #[.int .i64 n] W fun e w' => e = .returned (.tuple #[.agg #[.int .i64 (k / 4096), .int .i64 (k % 4096)], .nilIface]) ∧ Below W.heap.size W w') := hide (connOf_eq (c := 0) hof)
      have RT : Hid (∀ W, Calls Tryd.prog 27 #[.int .i64 n, .int .i64 sh] W fun e w' => e = .returned (.tuple #[.int .i64 (k / 4096 % sh), .nilIface]) ∧ Below W.heap.size W w') := hide (connRoute_eq (c := 0) (by unfold routeN; rw [if_pos (by omega), hof]))
      obtain ⟨k0, k1⟩ := k0
      have p0 : 0 ≤ k / 4096 := by omega
      have p1 : k / 4096 < 16 := by omega
      clear hk hkl hof
      go_enter Tryd.func7, Tryd.ntmps7
      go_wp2_with fail
      refine (RC.out _).mono ?_
      rintro e w1 ⟨rfl, hb1⟩
      have hB1 : Below w.heap.size w w1 := by
        refine Below.trans ?_ (Below.mono hb1 ?_)
        · go_grown
        · first | omega | (simp; done) | (simp; omega)
      have hz1_0 : w.heap.size < w1.heap.size := by have := hb1.size; first | omega | (simp at this; omega)
      have hy1 : w.heap.size ≤ w1.heap.size := hB1.size
      obtain ⟨c1, d1⟩ := bcell hb1
      go_wp2_with fail
      refine (NM.out _).mono ?_
      rintro e w2 ⟨rfl, hb2⟩
      have hB2 : Below w.heap.size w w2 := by
        refine Below.trans ?_ (Below.mono hb2 ?_)
        · go_grown
        · first | omega | (simp; done) | (simp; omega)
      have hz2_0 : w.heap.size < w2.heap.size := by have := hb2.size; first | omega | (simp at this; omega)
      have hy2 : w.heap.size ≤ w2.heap.size := hB2.size
      obtain ⟨c2, d2⟩ := bcell hb2
      go_wp2_with fail
      refine (error_any 1 1 _ (hE.below (B := w.heap.size) (by go_grown) hE.pos)).mono ?_
      rintro e w3 ⟨rfl, hb3⟩
      have hB3 : Below w.heap.size w w3 := by
        refine Below.trans ?_ (Below.mono hb3 ?_)
        · go_grown
        · first | omega | (simp; done) | (simp; omega)
      have hz3_0 : w.heap.size < w3.heap.size := by have := hb3.size; first | omega | (simp at this; omega)
      have hy3 : w.heap.size ≤ w3.heap.size := hB3.size
      obtain ⟨c3, d3⟩ := bcell hb3
      go_wp2_with fail
      refine (TU.out _).mono ?_
      rintro e w104 ⟨rfl, rfl⟩
      go_wp2_with fail
      refine (OF.out _).mono ?_
      rintro e w5 ⟨rfl, hb5⟩
      have hB5 : Below w.heap.size w w5 := by
        refine Below.trans ?_ (Below.mono hb5 ?_)
        · go_grown
        · first | omega | (simp; done) | (simp; omega)
      have hz5_0 : w.heap.size < w5.heap.size := by have := hb5.size; first | omega | (simp at this; omega)
      have hl5_w3 : w3.heap.size < w5.heap.size := by have := hb5.size; first | omega | (simp at this; omega)
      have hy5 : w.heap.size ≤ w5.heap.size := hB5.size
      obtain ⟨c5, d5⟩ := bcell hb5
      go_wp2_with fail
      refine (error_any 0 0 _ (hE.below (B := w.heap.size) (by go_grown) hE.pos)).mono ?_
      rintro e w6 ⟨rfl, hb6⟩
      have hB6 : Below w.heap.size w w6 := by
        refine Below.trans ?_ (Below.mono hb6 ?_)
        · go_grown
        · first | omega | (simp; done) | (simp; omega)
      have hz6_0 : w.heap.size < w6.heap.size := by have := hb6.size; first | omega | (simp at this; omega)
      have hl6_w3 : w3.heap.size < w6.heap.size := by have := hb6.size; first | omega | (simp at this; omega)
      have hl6_w5 : w5.heap.size < w6.heap.size := by have := hb6.size; first | omega | (simp at this; omega)
      have hy6 : w.heap.size ≤ w6.heap.size := hB6.size
      obtain ⟨c6, d6⟩ := bcell hb6
      go_wp2_with fail
      refine (RT.out _).mono ?_
      rintro e w7 ⟨rfl, hb7⟩
      have hB7 : Below w.heap.size w w7 := by
        refine Below.trans ?_ (Below.mono hb7 ?_)
        · go_grown
        · first | omega | (simp; done) | (simp; omega)
      have hz7_0 : w.heap.size < w7.heap.size := by have := hb7.size; first | omega | (simp at this; omega)
      have hl7_w3 : w3.heap.size < w7.heap.size := by have := hb7.size; first | omega | (simp at this; omega)
      have hl7_w5 : w5.heap.size < w7.heap.size := by have := hb7.size; first | omega | (simp at this; omega)
      have hy7 : w.heap.size ≤ w7.heap.size := hB7.size
      obtain ⟨c7, d7⟩ := bcell hb7
      go_wp2_with fail
      refine (error_any 0 0 _ (hE.below (B := w.heap.size) (by go_grown) hE.pos)).mono ?_
      rintro e w8 ⟨rfl, hb8⟩
      have hB8 : Below w.heap.size w w8 := by
        refine Below.trans ?_ (Below.mono hb8 ?_)
        · go_grown
        · first | omega | (simp; done) | (simp; omega)
      have hz8_0 : w.heap.size < w8.heap.size := by have := hb8.size; first | omega | (simp at this; omega)
      have hl8_w3 : w3.heap.size < w8.heap.size := by have := hb8.size; first | omega | (simp at this; omega)
      have hl8_w5 : w5.heap.size < w8.heap.size := by have := hb8.size; first | omega | (simp at this; omega)
      have hy8 : w.heap.size ≤ w8.heap.size := hB8.size
      obtain ⟨c8, d8⟩ := bcell hb8
      go_wp2
      go_ret
      exact ⟨rfl, by go_grown⟩
  · rw [hc] at RC
    obtain ⟨v, hv⟩ : ∃ v, v = connN s m := ⟨_, rfl⟩
    have RN : Hid (∀ W, Calls Tryd.prog 23 #[.agg #[.int .i64 s, .int .i64 m]] W fun e w' => e = .returned (.int .i64 v) ∧ Below W.heap.size W w') := by intro W; rw [hv]; exact rNumber s m W hc
    have NM : Hid (∀ W, Calls Tryd.prog 24 #[.agg #[.int .i64 s, .int .i64 m]] W fun e w' => e = .returned (.tuple #[.int .i64 v, .nilIface]) ∧ Below W.heap.size W w') := hide (connNumber_eq (c := 0) (by simp [connNum, hc, hv]))
    clear hv hc
    rcases hn with h | ⟨h1, h2⟩ | ⟨h1, h2, h3⟩ | ⟨h1, h2, h3, h4⟩ | ⟨h1, h2, h3, h4⟩
    · have OF : Hid (∀ W, Calls Tryd.prog 26 #[.int .i64 n] W fun e w' => e = .returned (.tuple #[.agg #[.int .i64 0, .int .i64 0], .iface 68 (.int .i64 1)]) ∧ Below W.heap.size W w') := hide (connOf_eq (c := 1) (by unfold connOfN; rw [if_neg (by omega)]))
      have RT : Hid (∀ W, Calls Tryd.prog 27 #[.int .i64 n, .int .i64 sh] W fun e w' => e = .returned (.tuple #[.int .i64 0, .iface 68 (.int .i64 1)]) ∧ Below W.heap.size W w') := hide (connRoute_eq (c := 1) (by unfold routeN; rw [if_neg (by omega)]))
      go_enter Tryd.func7, Tryd.ntmps7
      go_wp2_with fail
      refine (RC.out _).mono ?_
      rintro e w1 ⟨rfl, hb1⟩
      have hB1 : Below w.heap.size w w1 := by
        refine Below.trans ?_ (Below.mono hb1 ?_)
        · go_grown
        · first | omega | (simp; done) | (simp; omega)
      have hz1_0 : w.heap.size < w1.heap.size := by have := hb1.size; first | omega | (simp at this; omega)
      have hy1 : w.heap.size ≤ w1.heap.size := hB1.size
      obtain ⟨c1, d1⟩ := bcell hb1
      go_wp2_with fail
      refine (RN.out _).mono ?_
      rintro e w2 ⟨rfl, hb2⟩
      have hB2 : Below w.heap.size w w2 := by
        refine Below.trans ?_ (Below.mono hb2 ?_)
        · go_grown
        · first | omega | (simp; done) | (simp; omega)
      have hz2_0 : w.heap.size < w2.heap.size := by have := hb2.size; first | omega | (simp at this; omega)
      have hy2 : w.heap.size ≤ w2.heap.size := hB2.size
      obtain ⟨c2, d2⟩ := bcell hb2
      go_wp2_with fail
      refine (NM.out _).mono ?_
      rintro e w3 ⟨rfl, hb3⟩
      have hB3 : Below w.heap.size w w3 := by
        refine Below.trans ?_ (Below.mono hb3 ?_)
        · go_grown
        · first | omega | (simp; done) | (simp; omega)
      have hz3_0 : w.heap.size < w3.heap.size := by have := hb3.size; first | omega | (simp at this; omega)
      have hy3 : w.heap.size ≤ w3.heap.size := hB3.size
      obtain ⟨c3, d3⟩ := bcell hb3
      go_wp2_with fail
      refine (error_any 0 0 _ (hE.below (B := w.heap.size) (by go_grown) hE.pos)).mono ?_
      rintro e w4 ⟨rfl, hb4⟩
      have hB4 : Below w.heap.size w w4 := by
        refine Below.trans ?_ (Below.mono hb4 ?_)
        · go_grown
        · first | omega | (simp; done) | (simp; omega)
      have hz4_0 : w.heap.size < w4.heap.size := by have := hb4.size; first | omega | (simp at this; omega)
      have hy4 : w.heap.size ≤ w4.heap.size := hB4.size
      obtain ⟨c4, d4⟩ := bcell hb4
      go_wp2_with fail
      refine (OF.out _).mono ?_
      rintro e w5 ⟨rfl, hb5⟩
      have hB5 : Below w.heap.size w w5 := by
        refine Below.trans ?_ (Below.mono hb5 ?_)
        · go_grown
        · first | omega | (simp; done) | (simp; omega)
      have hz5_0 : w.heap.size < w5.heap.size := by have := hb5.size; first | omega | (simp at this; omega)
      have hl5_w4 : w4.heap.size < w5.heap.size := by have := hb5.size; first | omega | (simp at this; omega)
      have hy5 : w.heap.size ≤ w5.heap.size := hB5.size
      obtain ⟨c5, d5⟩ := bcell hb5
      go_wp2_with fail
      refine (error_any 1 1 _ (hE.below (B := w.heap.size) (by go_grown) hE.pos)).mono ?_
      rintro e w6 ⟨rfl, hb6⟩
      have hB6 : Below w.heap.size w w6 := by
        refine Below.trans ?_ (Below.mono hb6 ?_)
        · go_grown
        · first | omega | (simp; done) | (simp; omega)
      have hz6_0 : w.heap.size < w6.heap.size := by have := hb6.size; first | omega | (simp at this; omega)
      have hl6_w4 : w4.heap.size < w6.heap.size := by have := hb6.size; first | omega | (simp at this; omega)
      have hl6_w5 : w5.heap.size < w6.heap.size := by have := hb6.size; first | omega | (simp at this; omega)
      have hy6 : w.heap.size ≤ w6.heap.size := hB6.size
      obtain ⟨c6, d6⟩ := bcell hb6
      go_wp2_with fail
      refine (RT.out _).mono ?_
      rintro e w7 ⟨rfl, hb7⟩
      have hB7 : Below w.heap.size w w7 := by
        refine Below.trans ?_ (Below.mono hb7 ?_)
        · go_grown
        · first | omega | (simp; done) | (simp; omega)
      have hz7_0 : w.heap.size < w7.heap.size := by have := hb7.size; first | omega | (simp at this; omega)
      have hl7_w4 : w4.heap.size < w7.heap.size := by have := hb7.size; first | omega | (simp at this; omega)
      have hl7_w5 : w5.heap.size < w7.heap.size := by have := hb7.size; first | omega | (simp at this; omega)
      have hy7 : w.heap.size ≤ w7.heap.size := hB7.size
      obtain ⟨c7, d7⟩ := bcell hb7
      go_wp2_with fail
      refine (error_any 1 1 _ (hE.below (B := w.heap.size) (by go_grown) hE.pos)).mono ?_
      rintro e w8 ⟨rfl, hb8⟩
      have hB8 : Below w.heap.size w w8 := by
        refine Below.trans ?_ (Below.mono hb8 ?_)
        · go_grown
        · first | omega | (simp; done) | (simp; omega)
      have hz8_0 : w.heap.size < w8.heap.size := by have := hb8.size; first | omega | (simp at this; omega)
      have hl8_w4 : w4.heap.size < w8.heap.size := by have := hb8.size; first | omega | (simp at this; omega)
      have hl8_w5 : w5.heap.size < w8.heap.size := by have := hb8.size; first | omega | (simp at this; omega)
      have hy8 : w.heap.size ≤ w8.heap.size := hB8.size
      obtain ⟨c8, d8⟩ := bcell hb8
      go_wp2
      go_ret
      exact ⟨rfl, by go_grown⟩
    · have OF : Hid (∀ W, Calls Tryd.prog 26 #[.int .i64 n] W fun e w' => e = .returned (.tuple #[.agg #[.int .i64 0, .int .i64 0], .iface 68 (.int .i64 1)]) ∧ Below W.heap.size W w') := hide (connOf_eq (c := 1) (by unfold connOfN; rw [if_neg (by omega)]))
      have RT : Hid (∀ W, Calls Tryd.prog 27 #[.int .i64 n, .int .i64 sh] W fun e w' => e = .returned (.tuple #[.int .i64 0, .iface 68 (.int .i64 1)]) ∧ Below W.heap.size W w') := hide (connRoute_eq (c := 1) (by unfold routeN; rw [if_neg (by omega)]))
      go_enter Tryd.func7, Tryd.ntmps7
      go_wp2_with fail
      refine (RC.out _).mono ?_
      rintro e w1 ⟨rfl, hb1⟩
      have hB1 : Below w.heap.size w w1 := by
        refine Below.trans ?_ (Below.mono hb1 ?_)
        · go_grown
        · first | omega | (simp; done) | (simp; omega)
      have hz1_0 : w.heap.size < w1.heap.size := by have := hb1.size; first | omega | (simp at this; omega)
      have hy1 : w.heap.size ≤ w1.heap.size := hB1.size
      obtain ⟨c1, d1⟩ := bcell hb1
      go_wp2_with fail
      refine (RN.out _).mono ?_
      rintro e w2 ⟨rfl, hb2⟩
      have hB2 : Below w.heap.size w w2 := by
        refine Below.trans ?_ (Below.mono hb2 ?_)
        · go_grown
        · first | omega | (simp; done) | (simp; omega)
      have hz2_0 : w.heap.size < w2.heap.size := by have := hb2.size; first | omega | (simp at this; omega)
      have hy2 : w.heap.size ≤ w2.heap.size := hB2.size
      obtain ⟨c2, d2⟩ := bcell hb2
      go_wp2_with fail
      refine (NM.out _).mono ?_
      rintro e w3 ⟨rfl, hb3⟩
      have hB3 : Below w.heap.size w w3 := by
        refine Below.trans ?_ (Below.mono hb3 ?_)
        · go_grown
        · first | omega | (simp; done) | (simp; omega)
      have hz3_0 : w.heap.size < w3.heap.size := by have := hb3.size; first | omega | (simp at this; omega)
      have hy3 : w.heap.size ≤ w3.heap.size := hB3.size
      obtain ⟨c3, d3⟩ := bcell hb3
      go_wp2_with fail
      refine (error_any 0 0 _ (hE.below (B := w.heap.size) (by go_grown) hE.pos)).mono ?_
      rintro e w4 ⟨rfl, hb4⟩
      have hB4 : Below w.heap.size w w4 := by
        refine Below.trans ?_ (Below.mono hb4 ?_)
        · go_grown
        · first | omega | (simp; done) | (simp; omega)
      have hz4_0 : w.heap.size < w4.heap.size := by have := hb4.size; first | omega | (simp at this; omega)
      have hy4 : w.heap.size ≤ w4.heap.size := hB4.size
      obtain ⟨c4, d4⟩ := bcell hb4
      go_wp2_with fail
      refine (OF.out _).mono ?_
      rintro e w5 ⟨rfl, hb5⟩
      have hB5 : Below w.heap.size w w5 := by
        refine Below.trans ?_ (Below.mono hb5 ?_)
        · go_grown
        · first | omega | (simp; done) | (simp; omega)
      have hz5_0 : w.heap.size < w5.heap.size := by have := hb5.size; first | omega | (simp at this; omega)
      have hl5_w4 : w4.heap.size < w5.heap.size := by have := hb5.size; first | omega | (simp at this; omega)
      have hy5 : w.heap.size ≤ w5.heap.size := hB5.size
      obtain ⟨c5, d5⟩ := bcell hb5
      go_wp2_with fail
      refine (error_any 1 1 _ (hE.below (B := w.heap.size) (by go_grown) hE.pos)).mono ?_
      rintro e w6 ⟨rfl, hb6⟩
      have hB6 : Below w.heap.size w w6 := by
        refine Below.trans ?_ (Below.mono hb6 ?_)
        · go_grown
        · first | omega | (simp; done) | (simp; omega)
      have hz6_0 : w.heap.size < w6.heap.size := by have := hb6.size; first | omega | (simp at this; omega)
      have hl6_w4 : w4.heap.size < w6.heap.size := by have := hb6.size; first | omega | (simp at this; omega)
      have hl6_w5 : w5.heap.size < w6.heap.size := by have := hb6.size; first | omega | (simp at this; omega)
      have hy6 : w.heap.size ≤ w6.heap.size := hB6.size
      obtain ⟨c6, d6⟩ := bcell hb6
      go_wp2_with fail
      refine (RT.out _).mono ?_
      rintro e w7 ⟨rfl, hb7⟩
      have hB7 : Below w.heap.size w w7 := by
        refine Below.trans ?_ (Below.mono hb7 ?_)
        · go_grown
        · first | omega | (simp; done) | (simp; omega)
      have hz7_0 : w.heap.size < w7.heap.size := by have := hb7.size; first | omega | (simp at this; omega)
      have hl7_w4 : w4.heap.size < w7.heap.size := by have := hb7.size; first | omega | (simp at this; omega)
      have hl7_w5 : w5.heap.size < w7.heap.size := by have := hb7.size; first | omega | (simp at this; omega)
      have hy7 : w.heap.size ≤ w7.heap.size := hB7.size
      obtain ⟨c7, d7⟩ := bcell hb7
      go_wp2_with fail
      refine (error_any 1 1 _ (hE.below (B := w.heap.size) (by go_grown) hE.pos)).mono ?_
      rintro e w8 ⟨rfl, hb8⟩
      have hB8 : Below w.heap.size w w8 := by
        refine Below.trans ?_ (Below.mono hb8 ?_)
        · go_grown
        · first | omega | (simp; done) | (simp; omega)
      have hz8_0 : w.heap.size < w8.heap.size := by have := hb8.size; first | omega | (simp at this; omega)
      have hl8_w4 : w4.heap.size < w8.heap.size := by have := hb8.size; first | omega | (simp at this; omega)
      have hl8_w5 : w5.heap.size < w8.heap.size := by have := hb8.size; first | omega | (simp at this; omega)
      have hy8 : w.heap.size ≤ w8.heap.size := hB8.size
      obtain ⟨c8, d8⟩ := bcell hb8
      go_wp2
      go_ret
      exact ⟨rfl, by go_grown⟩
    · obtain ⟨k, hk⟩ : ∃ k, k = ((xn n.toNat : Nat) : Int) := ⟨_, rfl⟩
      have hkl := xn_lt n.toNat (by omega)
      have k0 : 0 ≤ k ∧ k < 65536 := by omega
      have TU : Hid (∀ W, Calls Tryd.prog 25 #[.int .i64 n] W fun e w' => e = .returned (.int .i64 k) ∧ W = w') := by
        intro W; have g := rTurned n.toNat W (by omega)
        rwa [← hk, show ((n.toNat : Nat) : Int) = n by omega] at g
      have hof : connOfN n = (k / 4096, k % 4096, 0) := by unfold connOfN; rw [if_pos (by omega), hk]
      have OF : Hid (∀ W, Calls Tryd.prog 26 #[.int .i64 n] W fun e w' => e = .returned (.tuple #[.agg #[.int .i64 (k / 4096), .int .i64 (k % 4096)], .nilIface]) ∧ Below W.heap.size W w') := hide (connOf_eq (c := 0) hof)
      have RT : Hid (∀ W, Calls Tryd.prog 27 #[.int .i64 n, .int .i64 sh] W fun e w' => e = .returned (.tuple #[.int .i64 0, .iface 68 (.int .i64 1)]) ∧ Below W.heap.size W w') := hide (connRoute_eq (c := 1) (by unfold routeN; rw [if_neg (by omega)]))
      obtain ⟨k0, k1⟩ := k0
      have p0 : 0 ≤ k / 4096 := by omega
      have p1 : k / 4096 < 16 := by omega
      clear hk hkl hof
      go_enter Tryd.func7, Tryd.ntmps7
      go_wp2_with fail
      refine (RC.out _).mono ?_
      rintro e w1 ⟨rfl, hb1⟩
      have hB1 : Below w.heap.size w w1 := by
        refine Below.trans ?_ (Below.mono hb1 ?_)
        · go_grown
        · first | omega | (simp; done) | (simp; omega)
      have hz1_0 : w.heap.size < w1.heap.size := by have := hb1.size; first | omega | (simp at this; omega)
      have hy1 : w.heap.size ≤ w1.heap.size := hB1.size
      obtain ⟨c1, d1⟩ := bcell hb1
      go_wp2_with fail
      refine (RN.out _).mono ?_
      rintro e w2 ⟨rfl, hb2⟩
      have hB2 : Below w.heap.size w w2 := by
        refine Below.trans ?_ (Below.mono hb2 ?_)
        · go_grown
        · first | omega | (simp; done) | (simp; omega)
      have hz2_0 : w.heap.size < w2.heap.size := by have := hb2.size; first | omega | (simp at this; omega)
      have hy2 : w.heap.size ≤ w2.heap.size := hB2.size
      obtain ⟨c2, d2⟩ := bcell hb2
      go_wp2_with fail
      refine (NM.out _).mono ?_
      rintro e w3 ⟨rfl, hb3⟩
      have hB3 : Below w.heap.size w w3 := by
        refine Below.trans ?_ (Below.mono hb3 ?_)
        · go_grown
        · first | omega | (simp; done) | (simp; omega)
      have hz3_0 : w.heap.size < w3.heap.size := by have := hb3.size; first | omega | (simp at this; omega)
      have hy3 : w.heap.size ≤ w3.heap.size := hB3.size
      obtain ⟨c3, d3⟩ := bcell hb3
      go_wp2_with fail
      refine (error_any 0 0 _ (hE.below (B := w.heap.size) (by go_grown) hE.pos)).mono ?_
      rintro e w4 ⟨rfl, hb4⟩
      have hB4 : Below w.heap.size w w4 := by
        refine Below.trans ?_ (Below.mono hb4 ?_)
        · go_grown
        · first | omega | (simp; done) | (simp; omega)
      have hz4_0 : w.heap.size < w4.heap.size := by have := hb4.size; first | omega | (simp at this; omega)
      have hy4 : w.heap.size ≤ w4.heap.size := hB4.size
      obtain ⟨c4, d4⟩ := bcell hb4
      go_wp2_with fail
      refine (TU.out _).mono ?_
      rintro e w105 ⟨rfl, rfl⟩
      go_wp2_with fail
      refine (OF.out _).mono ?_
      rintro e w6 ⟨rfl, hb6⟩
      have hB6 : Below w.heap.size w w6 := by
        refine Below.trans ?_ (Below.mono hb6 ?_)
        · go_grown
        · first | omega | (simp; done) | (simp; omega)
      have hz6_0 : w.heap.size < w6.heap.size := by have := hb6.size; first | omega | (simp at this; omega)
      have hl6_w4 : w4.heap.size < w6.heap.size := by have := hb6.size; first | omega | (simp at this; omega)
      have hy6 : w.heap.size ≤ w6.heap.size := hB6.size
      obtain ⟨c6, d6⟩ := bcell hb6
      go_wp2_with fail
      refine (error_any 0 0 _ (hE.below (B := w.heap.size) (by go_grown) hE.pos)).mono ?_
      rintro e w7 ⟨rfl, hb7⟩
      have hB7 : Below w.heap.size w w7 := by
        refine Below.trans ?_ (Below.mono hb7 ?_)
        · go_grown
        · first | omega | (simp; done) | (simp; omega)
      have hz7_0 : w.heap.size < w7.heap.size := by have := hb7.size; first | omega | (simp at this; omega)
      have hl7_w4 : w4.heap.size < w7.heap.size := by have := hb7.size; first | omega | (simp at this; omega)
      have hl7_w6 : w6.heap.size < w7.heap.size := by have := hb7.size; first | omega | (simp at this; omega)
      have hy7 : w.heap.size ≤ w7.heap.size := hB7.size
      obtain ⟨c7, d7⟩ := bcell hb7
      go_wp2_with fail
      refine (RT.out _).mono ?_
      rintro e w8 ⟨rfl, hb8⟩
      have hB8 : Below w.heap.size w w8 := by
        refine Below.trans ?_ (Below.mono hb8 ?_)
        · go_grown
        · first | omega | (simp; done) | (simp; omega)
      have hz8_0 : w.heap.size < w8.heap.size := by have := hb8.size; first | omega | (simp at this; omega)
      have hl8_w4 : w4.heap.size < w8.heap.size := by have := hb8.size; first | omega | (simp at this; omega)
      have hl8_w6 : w6.heap.size < w8.heap.size := by have := hb8.size; first | omega | (simp at this; omega)
      have hy8 : w.heap.size ≤ w8.heap.size := hB8.size
      obtain ⟨c8, d8⟩ := bcell hb8
      go_wp2_with fail
      refine (error_any 1 1 _ (hE.below (B := w.heap.size) (by go_grown) hE.pos)).mono ?_
      rintro e w9 ⟨rfl, hb9⟩
      have hB9 : Below w.heap.size w w9 := by
        refine Below.trans ?_ (Below.mono hb9 ?_)
        · go_grown
        · first | omega | (simp; done) | (simp; omega)
      have hz9_0 : w.heap.size < w9.heap.size := by have := hb9.size; first | omega | (simp at this; omega)
      have hl9_w4 : w4.heap.size < w9.heap.size := by have := hb9.size; first | omega | (simp at this; omega)
      have hl9_w6 : w6.heap.size < w9.heap.size := by have := hb9.size; first | omega | (simp at this; omega)
      have hy9 : w.heap.size ≤ w9.heap.size := hB9.size
      obtain ⟨c9, d9⟩ := bcell hb9
      go_wp2
      go_ret
      exact ⟨rfl, by go_grown⟩
    · obtain ⟨k, hk⟩ : ∃ k, k = ((xn n.toNat : Nat) : Int) := ⟨_, rfl⟩
      have hkl := xn_lt n.toNat (by omega)
      have k0 : 0 ≤ k ∧ k < 65536 := by omega
      have TU : Hid (∀ W, Calls Tryd.prog 25 #[.int .i64 n] W fun e w' => e = .returned (.int .i64 k) ∧ W = w') := by
        intro W; have g := rTurned n.toNat W (by omega)
        rwa [← hk, show ((n.toNat : Nat) : Int) = n by omega] at g
      have hof : connOfN n = (k / 4096, k % 4096, 0) := by unfold connOfN; rw [if_pos (by omega), hk]
      have OF : Hid (∀ W, Calls Tryd.prog 26 #[.int .i64 n] W fun e w' => e = .returned (.tuple #[.agg #[.int .i64 (k / 4096), .int .i64 (k % 4096)], .nilIface]) ∧ Below W.heap.size W w') := hide (connOf_eq (c := 0) hof)
      have RT : Hid (∀ W, Calls Tryd.prog 27 #[.int .i64 n, .int .i64 sh] W fun e w' => e = .returned (.tuple #[.int .i64 0, .iface 68 (.int .i64 1)]) ∧ Below W.heap.size W w') := hide (connRoute_eq (c := 1) (by unfold routeN; rw [if_neg (by omega)]))
      obtain ⟨k0, k1⟩ := k0
      have p0 : 0 ≤ k / 4096 := by omega
      have p1 : k / 4096 < 16 := by omega
      clear hk hkl hof
      go_enter Tryd.func7, Tryd.ntmps7
      go_wp2_with fail
      refine (RC.out _).mono ?_
      rintro e w1 ⟨rfl, hb1⟩
      have hB1 : Below w.heap.size w w1 := by
        refine Below.trans ?_ (Below.mono hb1 ?_)
        · go_grown
        · first | omega | (simp; done) | (simp; omega)
      have hz1_0 : w.heap.size < w1.heap.size := by have := hb1.size; first | omega | (simp at this; omega)
      have hy1 : w.heap.size ≤ w1.heap.size := hB1.size
      obtain ⟨c1, d1⟩ := bcell hb1
      go_wp2_with fail
      refine (RN.out _).mono ?_
      rintro e w2 ⟨rfl, hb2⟩
      have hB2 : Below w.heap.size w w2 := by
        refine Below.trans ?_ (Below.mono hb2 ?_)
        · go_grown
        · first | omega | (simp; done) | (simp; omega)
      have hz2_0 : w.heap.size < w2.heap.size := by have := hb2.size; first | omega | (simp at this; omega)
      have hy2 : w.heap.size ≤ w2.heap.size := hB2.size
      obtain ⟨c2, d2⟩ := bcell hb2
      go_wp2_with fail
      refine (NM.out _).mono ?_
      rintro e w3 ⟨rfl, hb3⟩
      have hB3 : Below w.heap.size w w3 := by
        refine Below.trans ?_ (Below.mono hb3 ?_)
        · go_grown
        · first | omega | (simp; done) | (simp; omega)
      have hz3_0 : w.heap.size < w3.heap.size := by have := hb3.size; first | omega | (simp at this; omega)
      have hy3 : w.heap.size ≤ w3.heap.size := hB3.size
      obtain ⟨c3, d3⟩ := bcell hb3
      go_wp2_with fail
      refine (error_any 0 0 _ (hE.below (B := w.heap.size) (by go_grown) hE.pos)).mono ?_
      rintro e w4 ⟨rfl, hb4⟩
      have hB4 : Below w.heap.size w w4 := by
        refine Below.trans ?_ (Below.mono hb4 ?_)
        · go_grown
        · first | omega | (simp; done) | (simp; omega)
      have hz4_0 : w.heap.size < w4.heap.size := by have := hb4.size; first | omega | (simp at this; omega)
      have hy4 : w.heap.size ≤ w4.heap.size := hB4.size
      obtain ⟨c4, d4⟩ := bcell hb4
      go_wp2_with fail
      refine (TU.out _).mono ?_
      rintro e w105 ⟨rfl, rfl⟩
      go_wp2_with fail
      refine (OF.out _).mono ?_
      rintro e w6 ⟨rfl, hb6⟩
      have hB6 : Below w.heap.size w w6 := by
        refine Below.trans ?_ (Below.mono hb6 ?_)
        · go_grown
        · first | omega | (simp; done) | (simp; omega)
      have hz6_0 : w.heap.size < w6.heap.size := by have := hb6.size; first | omega | (simp at this; omega)
      have hl6_w4 : w4.heap.size < w6.heap.size := by have := hb6.size; first | omega | (simp at this; omega)
      have hy6 : w.heap.size ≤ w6.heap.size := hB6.size
      obtain ⟨c6, d6⟩ := bcell hb6
      go_wp2_with fail
      refine (error_any 0 0 _ (hE.below (B := w.heap.size) (by go_grown) hE.pos)).mono ?_
      rintro e w7 ⟨rfl, hb7⟩
      have hB7 : Below w.heap.size w w7 := by
        refine Below.trans ?_ (Below.mono hb7 ?_)
        · go_grown
        · first | omega | (simp; done) | (simp; omega)
      have hz7_0 : w.heap.size < w7.heap.size := by have := hb7.size; first | omega | (simp at this; omega)
      have hl7_w4 : w4.heap.size < w7.heap.size := by have := hb7.size; first | omega | (simp at this; omega)
      have hl7_w6 : w6.heap.size < w7.heap.size := by have := hb7.size; first | omega | (simp at this; omega)
      have hy7 : w.heap.size ≤ w7.heap.size := hB7.size
      obtain ⟨c7, d7⟩ := bcell hb7
      go_wp2_with fail
      refine (RT.out _).mono ?_
      rintro e w8 ⟨rfl, hb8⟩
      have hB8 : Below w.heap.size w w8 := by
        refine Below.trans ?_ (Below.mono hb8 ?_)
        · go_grown
        · first | omega | (simp; done) | (simp; omega)
      have hz8_0 : w.heap.size < w8.heap.size := by have := hb8.size; first | omega | (simp at this; omega)
      have hl8_w4 : w4.heap.size < w8.heap.size := by have := hb8.size; first | omega | (simp at this; omega)
      have hl8_w6 : w6.heap.size < w8.heap.size := by have := hb8.size; first | omega | (simp at this; omega)
      have hy8 : w.heap.size ≤ w8.heap.size := hB8.size
      obtain ⟨c8, d8⟩ := bcell hb8
      go_wp2_with fail
      refine (error_any 1 1 _ (hE.below (B := w.heap.size) (by go_grown) hE.pos)).mono ?_
      rintro e w9 ⟨rfl, hb9⟩
      have hB9 : Below w.heap.size w w9 := by
        refine Below.trans ?_ (Below.mono hb9 ?_)
        · go_grown
        · first | omega | (simp; done) | (simp; omega)
      have hz9_0 : w.heap.size < w9.heap.size := by have := hb9.size; first | omega | (simp at this; omega)
      have hl9_w4 : w4.heap.size < w9.heap.size := by have := hb9.size; first | omega | (simp at this; omega)
      have hl9_w6 : w6.heap.size < w9.heap.size := by have := hb9.size; first | omega | (simp at this; omega)
      have hy9 : w.heap.size ≤ w9.heap.size := hB9.size
      obtain ⟨c9, d9⟩ := bcell hb9
      go_wp2
      go_ret
      exact ⟨rfl, by go_grown⟩
    · obtain ⟨k, hk⟩ : ∃ k, k = ((xn n.toNat : Nat) : Int) := ⟨_, rfl⟩
      have hkl := xn_lt n.toNat (by omega)
      have k0 : 0 ≤ k ∧ k < 65536 := by omega
      have TU : Hid (∀ W, Calls Tryd.prog 25 #[.int .i64 n] W fun e w' => e = .returned (.int .i64 k) ∧ W = w') := by
        intro W; have g := rTurned n.toNat W (by omega)
        rwa [← hk, show ((n.toNat : Nat) : Int) = n by omega] at g
      have hof : connOfN n = (k / 4096, k % 4096, 0) := by unfold connOfN; rw [if_pos (by omega), hk]
      have OF : Hid (∀ W, Calls Tryd.prog 26 #[.int .i64 n] W fun e w' => e = .returned (.tuple #[.agg #[.int .i64 (k / 4096), .int .i64 (k % 4096)], .nilIface]) ∧ Below W.heap.size W w') := hide (connOf_eq (c := 0) hof)
      have RT : Hid (∀ W, Calls Tryd.prog 27 #[.int .i64 n, .int .i64 sh] W fun e w' => e = .returned (.tuple #[.int .i64 (k / 4096 % sh), .nilIface]) ∧ Below W.heap.size W w') := hide (connRoute_eq (c := 0) (by unfold routeN; rw [if_pos (by omega), hof]))
      obtain ⟨k0, k1⟩ := k0
      have p0 : 0 ≤ k / 4096 := by omega
      have p1 : k / 4096 < 16 := by omega
      clear hk hkl hof
      go_enter Tryd.func7, Tryd.ntmps7
      go_wp2_with fail
      refine (RC.out _).mono ?_
      rintro e w1 ⟨rfl, hb1⟩
      have hB1 : Below w.heap.size w w1 := by
        refine Below.trans ?_ (Below.mono hb1 ?_)
        · go_grown
        · first | omega | (simp; done) | (simp; omega)
      have hz1_0 : w.heap.size < w1.heap.size := by have := hb1.size; first | omega | (simp at this; omega)
      have hy1 : w.heap.size ≤ w1.heap.size := hB1.size
      obtain ⟨c1, d1⟩ := bcell hb1
      go_wp2_with fail
      refine (RN.out _).mono ?_
      rintro e w2 ⟨rfl, hb2⟩
      have hB2 : Below w.heap.size w w2 := by
        refine Below.trans ?_ (Below.mono hb2 ?_)
        · go_grown
        · first | omega | (simp; done) | (simp; omega)
      have hz2_0 : w.heap.size < w2.heap.size := by have := hb2.size; first | omega | (simp at this; omega)
      have hy2 : w.heap.size ≤ w2.heap.size := hB2.size
      obtain ⟨c2, d2⟩ := bcell hb2
      go_wp2_with fail
      refine (NM.out _).mono ?_
      rintro e w3 ⟨rfl, hb3⟩
      have hB3 : Below w.heap.size w w3 := by
        refine Below.trans ?_ (Below.mono hb3 ?_)
        · go_grown
        · first | omega | (simp; done) | (simp; omega)
      have hz3_0 : w.heap.size < w3.heap.size := by have := hb3.size; first | omega | (simp at this; omega)
      have hy3 : w.heap.size ≤ w3.heap.size := hB3.size
      obtain ⟨c3, d3⟩ := bcell hb3
      go_wp2_with fail
      refine (error_any 0 0 _ (hE.below (B := w.heap.size) (by go_grown) hE.pos)).mono ?_
      rintro e w4 ⟨rfl, hb4⟩
      have hB4 : Below w.heap.size w w4 := by
        refine Below.trans ?_ (Below.mono hb4 ?_)
        · go_grown
        · first | omega | (simp; done) | (simp; omega)
      have hz4_0 : w.heap.size < w4.heap.size := by have := hb4.size; first | omega | (simp at this; omega)
      have hy4 : w.heap.size ≤ w4.heap.size := hB4.size
      obtain ⟨c4, d4⟩ := bcell hb4
      go_wp2_with fail
      refine (TU.out _).mono ?_
      rintro e w105 ⟨rfl, rfl⟩
      go_wp2_with fail
      refine (OF.out _).mono ?_
      rintro e w6 ⟨rfl, hb6⟩
      have hB6 : Below w.heap.size w w6 := by
        refine Below.trans ?_ (Below.mono hb6 ?_)
        · go_grown
        · first | omega | (simp; done) | (simp; omega)
      have hz6_0 : w.heap.size < w6.heap.size := by have := hb6.size; first | omega | (simp at this; omega)
      have hl6_w4 : w4.heap.size < w6.heap.size := by have := hb6.size; first | omega | (simp at this; omega)
      have hy6 : w.heap.size ≤ w6.heap.size := hB6.size
      obtain ⟨c6, d6⟩ := bcell hb6
      go_wp2_with fail
      refine (error_any 0 0 _ (hE.below (B := w.heap.size) (by go_grown) hE.pos)).mono ?_
      rintro e w7 ⟨rfl, hb7⟩
      have hB7 : Below w.heap.size w w7 := by
        refine Below.trans ?_ (Below.mono hb7 ?_)
        · go_grown
        · first | omega | (simp; done) | (simp; omega)
      have hz7_0 : w.heap.size < w7.heap.size := by have := hb7.size; first | omega | (simp at this; omega)
      have hl7_w4 : w4.heap.size < w7.heap.size := by have := hb7.size; first | omega | (simp at this; omega)
      have hl7_w6 : w6.heap.size < w7.heap.size := by have := hb7.size; first | omega | (simp at this; omega)
      have hy7 : w.heap.size ≤ w7.heap.size := hB7.size
      obtain ⟨c7, d7⟩ := bcell hb7
      go_wp2_with fail
      refine (RT.out _).mono ?_
      rintro e w8 ⟨rfl, hb8⟩
      have hB8 : Below w.heap.size w w8 := by
        refine Below.trans ?_ (Below.mono hb8 ?_)
        · go_grown
        · first | omega | (simp; done) | (simp; omega)
      have hz8_0 : w.heap.size < w8.heap.size := by have := hb8.size; first | omega | (simp at this; omega)
      have hl8_w4 : w4.heap.size < w8.heap.size := by have := hb8.size; first | omega | (simp at this; omega)
      have hl8_w6 : w6.heap.size < w8.heap.size := by have := hb8.size; first | omega | (simp at this; omega)
      have hy8 : w.heap.size ≤ w8.heap.size := hB8.size
      obtain ⟨c8, d8⟩ := bcell hb8
      go_wp2_with fail
      refine (error_any 0 0 _ (hE.below (B := w.heap.size) (by go_grown) hE.pos)).mono ?_
      rintro e w9 ⟨rfl, hb9⟩
      have hB9 : Below w.heap.size w w9 := by
        refine Below.trans ?_ (Below.mono hb9 ?_)
        · go_grown
        · first | omega | (simp; done) | (simp; omega)
      have hz9_0 : w.heap.size < w9.heap.size := by have := hb9.size; first | omega | (simp at this; omega)
      have hl9_w4 : w4.heap.size < w9.heap.size := by have := hb9.size; first | omega | (simp at this; omega)
      have hl9_w6 : w6.heap.size < w9.heap.size := by have := hb9.size; first | omega | (simp at this; omega)
      have hy9 : w.heap.size ≤ w9.heap.size := hB9.size
      obtain ⟨c9, d9⟩ := bcell hb9
      go_wp2
      go_ret
      exact ⟨rfl, by go_grown⟩
end Go.Proofs.YtnfgeidiglldkaaDoor
