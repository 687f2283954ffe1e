/- The walk of TicketHolds. -/
import Derived.Test.YtelegodagepeeaaDoorTickFacts
import Derived.Test.YtelegodagepeeaaDoorTokFacts
import Derived.Test.YtelegodagepeeaaDoorRingNew
import Derived.Test.YtelegodagepeeaaDoorErr
import Derived.Test.YtelegodagepeeaaDoorObj4
import Derived.Deep.Cut
namespace Go.Proofs.YtelegodagepeeaaDoor
open Go.RowKit

set_option maxRecDepth 100000 in
set_option maxHeartbeats 8000000 in
theorem walkTicketHolds (w : World) (e k o : Int) (_w1 : (Lit.int .i64 e).wf = true) (_w2 : (Lit.int .i64 k).wf = true) (_w3 : (Lit.int .i64 o).wf = true) (n : Int) (_w4 : (Lit.int .i64 n).wf = true) (u : Int) (_w5 : (Lit.int .i64 u).wf = true) (now : Int) (_w6 : (Lit.int .i64 now).wf = true) (ot : Int) (_w7 : (Lit.int .i64 ot).wf = true) (hE : ErrT w) :
    Calls Tryd.prog 13 #[.agg #[.int .i64 e, .int .i64 k, .int .i64 o], .int .i64 n, .int .i64 u, .int .i64 now, .int .i64 ot] w fun r w' => r = .returned (.bool true) ∧ Below w.heap.size w w' := by
  clear _w1 _w2 _w3 _w4 _w5 _w6 _w7
  have N5 := hide (fun W => ringNew_ok (seed := 5) (by decide) W)
  have hr5 := ringNew_key (seed := 5) (by decide)
  obtain ⟨v5, hv5⟩ : ∃ v, v = tagOf 5 [0] := ⟨_, rfl⟩
  rw [← hv5] at N5 hr5
  have M5 := hide (fun W => ticketMake_ok hr5 (show inB 3 = true by decide) (show tmB 10 = true by decide) W)
  have d0 : tickE 0 v5 0 0 3 10 (tagOf v5 [2, 3, 10]) 10 = 0 := by rw [tickE_at hr5 (by decide) (ringOfN_self _ _ _) (by decide) (by decide) (by decide)]; decide
  have d1 : tickE 0 v5 0 0 3 10 (tagOf v5 [2, 3, 10]) 11 = 9 := by rw [tickE_at hr5 (by decide) (ringOfN_self _ _ _) (by decide) (by decide) (by decide)]; decide
  obtain ⟨g5, hg5⟩ : ∃ g, g = tagOf v5 [2, 3, 10] := ⟨_, rfl⟩
  rw [← hg5] at M5 d0 d1
  have C5 : Hid (∀ W, Calls Tryd.prog 43 #[.agg #[.int .i64 0, .int .i64 v5, .int .i64 0], .agg #[.int .i64 0, .int .i64 3, .int .i64 10, .int .i64 g5], .int .i64 10] W fun r w' => r = .returned (.nilIface) ∧ Below W.heap.size W w') := ticketCheck_eq d0
  have D5 : Hid (∀ W, Calls Tryd.prog 43 #[.agg #[.int .i64 0, .int .i64 v5, .int .i64 0], .agg #[.int .i64 0, .int .i64 3, .int .i64 10, .int .i64 g5], .int .i64 11] W fun r w' => r = .returned (.iface 94 (.int .i64 9)) ∧ Below W.heap.size W w') := ticketCheck_eq d1
  clear hr5 hv5 hg5 d0 d1
  rcases tkmE_cases e k o n u with ⟨hm, hr, hn, hu⟩ | hm
  · have MK := hide (fun W => ticketMake_ok hr hn hu W)
    obtain ⟨he, hk, _, _⟩ := ringE_ok hr
    have hte := epB_true.2 he
    obtain ⟨u0, u1⟩ := tmB_true.1 hu
    have gin := tagOf_in k [2, n, u]
    have q0 : ∀ now, tmB now = true → tickE e k o e n u (tagOf k [2, n, u]) now = if u < now then 9 else 0 := fun now h => tickE_at hr hte (ringOfN_self _ _ _) hn hu h
    have q1 : tmB now = true → inB ot = true → ot ≠ n → tickE e k o e ot u (tagOf k [2, n, u]) now = 8 := fun h h1 h2 => tickE_seal hr hte (ringOfN_self _ _ _) h1 hu (inB_true.2 gin) (tagOf_three1 hk (by omega) (inB_true.1 hn) (by omega) (inB_true.1 h1) h2) h
    have q2 : tmB now = true → tmB ot = true → ot ≠ u → tickE e k o e n ot (tagOf k [2, n, u]) now = 8 := fun h h1 h2 => tickE_seal hr hte (ringOfN_self _ _ _) hn h1 (inB_true.2 gin) (tagOf_three2 hk (by omega) (inB_true.1 hn) (by omega) (by have := tmB_true.1 h1; omega) h2) h
    obtain ⟨n0, n1⟩ := inB_true.1 hn
    obtain ⟨g, hg⟩ : ∃ g, g = tagOf k [2, n, u] := ⟨_, rfl⟩
    rw [← hg] at MK q0 q1 q2
    clear hm hr hn hu he hk hte gin hg
    go_enter Tryd.func13, Tryd.ntmps13
    go_wp2_with fail
    refine (N5.out _).mono ?_
    rintro e w1 ⟨rfl, hb1⟩
    have hB1 : Below w.heap.size w w1 := by
      refine Below.trans ?_ (Below.mono hb1 ?_)
      · go_grown
      · first | omega | (simp; done) | (simp; omega)
    have o1_r : ObjAt w1 (w.heap.size) 47 [.int .i64 e, .int .i64 k, .int .i64 o] := ObjAt.below (objNew (by simp)) hb1
    have q1_r_0 := o1_r.cell (i := 0) rfl
    have q1_r_1 := o1_r.cell (i := 1) rfl
    have q1_r_2 := o1_r.cell (i := 2) rfl
    have l1_r := o1_r.lt
    have H1_r := hide o1_r
    clear o1_r
    have hy1 : w.heap.size ≤ w1.heap.size := hB1.size
    clear hb1
    go_wp2_with fail
    refine (M5.out _).mono ?_
    rintro e w2 ⟨rfl, hb2⟩
    have hB2 : Below w.heap.size w w2 := by
      refine Below.trans ?_ (Below.mono hb2 ?_)
      · go_grown
      · first | omega | (simp; done) | (simp; omega)
    have o2_r : ObjAt w2 (w.heap.size) 47 [.int .i64 e, .int .i64 k, .int .i64 o] := ObjAt.below (ObjAt.alloc (H1_r.out) _) hb2
    have o2_one : ObjAt w2 (w1.heap.size) 47 [.int .i64 0, .int .i64 v5, .int .i64 0] := ObjAt.below (objNew (by simp)) hb2
    clear q1_r_0 q1_r_1 q1_r_2 H1_r
    have q2_r_0 := o2_r.cell (i := 0) rfl
    have q2_r_1 := o2_r.cell (i := 1) rfl
    have q2_r_2 := o2_r.cell (i := 2) rfl
    have l2_r := o2_r.lt
    have H2_r := hide o2_r
    clear o2_r
    have q2_one_0 := o2_one.cell (i := 0) rfl
    have q2_one_1 := o2_one.cell (i := 1) rfl
    have q2_one_2 := o2_one.cell (i := 2) rfl
    have l2_one := o2_one.lt
    have H2_one := hide o2_one
    clear o2_one
    have hy2 : w.heap.size ≤ w2.heap.size := hB2.size
    clear hb2
    go_wp2_with fail
    refine (C5.out _).mono ?_
    rintro e w3 ⟨rfl, hb3⟩
    have hB3 : Below w.heap.size w w3 := by
      refine Below.trans ?_ (Below.mono hb3 ?_)
      · go_grown
      · first | omega | (simp; done) | (simp; omega)
    have o3_r : ObjAt w3 (w.heap.size) 47 [.int .i64 e, .int .i64 k, .int .i64 o] := ObjAt.below (ObjAt.alloc (H2_r.out) _) hb3
    have o3_one : ObjAt w3 (w1.heap.size) 47 [.int .i64 0, .int .i64 v5, .int .i64 0] := ObjAt.below (ObjAt.alloc (H2_one.out) _) hb3
    have o3_mine : ObjAt w3 (w2.heap.size) 56 [.int .i64 0, .int .i64 3, .int .i64 10, .int .i64 g5] := ObjAt.below (objNew (by simp)) hb3
    clear q2_r_0 q2_r_1 q2_r_2 H2_r q2_one_0 q2_one_1 q2_one_2 H2_one
    have q3_r_0 := o3_r.cell (i := 0) rfl
    have q3_r_1 := o3_r.cell (i := 1) rfl
    have q3_r_2 := o3_r.cell (i := 2) rfl
    have l3_r := o3_r.lt
    have H3_r := hide o3_r
    clear o3_r
    have q3_one_0 := o3_one.cell (i := 0) rfl
    have q3_one_1 := o3_one.cell (i := 1) rfl
    have q3_one_2 := o3_one.cell (i := 2) rfl
    have l3_one := o3_one.lt
    have H3_one := hide o3_one
    clear o3_one
    have q3_mine_0 := o3_mine.cell (i := 0) rfl
    have q3_mine_1 := o3_mine.cell (i := 1) rfl
    have q3_mine_2 := o3_mine.cell (i := 2) rfl
    have q3_mine_3 := o3_mine.cell (i := 3) rfl
    have l3_mine := o3_mine.lt
    have H3_mine := hide o3_mine
    clear o3_mine
    have hy3 : w.heap.size ≤ w3.heap.size := hB3.size
    clear hb3
    go_wp2_with fail
    refine (D5.out _).mono ?_
    rintro e w4 ⟨rfl, hb4⟩
    have hB4 : Below w.heap.size w w4 := by
      refine Below.trans ?_ (Below.mono hb4 ?_)
      · go_grown
      · first | omega | (simp; done) | (simp; omega)
    have o4_r : ObjAt w4 (w.heap.size) 47 [.int .i64 e, .int .i64 k, .int .i64 o] := ObjAt.below (H3_r.out) hb4
    have o4_one : ObjAt w4 (w1.heap.size) 47 [.int .i64 0, .int .i64 v5, .int .i64 0] := ObjAt.below (H3_one.out) hb4
    have o4_mine : ObjAt w4 (w2.heap.size) 56 [.int .i64 0, .int .i64 3, .int .i64 10, .int .i64 g5] := ObjAt.below (H3_mine.out) hb4
    clear q3_r_0 q3_r_1 q3_r_2 H3_r q3_one_0 q3_one_1 q3_one_2 H3_one q3_mine_0 q3_mine_1 q3_mine_2 q3_mine_3 H3_mine
    have q4_r_0 := o4_r.cell (i := 0) rfl
    have q4_r_1 := o4_r.cell (i := 1) rfl
    have q4_r_2 := o4_r.cell (i := 2) rfl
    have l4_r := o4_r.lt
    have H4_r := hide o4_r
    clear o4_r
    have q4_one_0 := o4_one.cell (i := 0) rfl
    have q4_one_1 := o4_one.cell (i := 1) rfl
    have q4_one_2 := o4_one.cell (i := 2) rfl
    have l4_one := o4_one.lt
    have H4_one := hide o4_one
    clear o4_one
    have q4_mine_0 := o4_mine.cell (i := 0) rfl
    have q4_mine_1 := o4_mine.cell (i := 1) rfl
    have q4_mine_2 := o4_mine.cell (i := 2) rfl
    have q4_mine_3 := o4_mine.cell (i := 3) rfl
    have l4_mine := o4_mine.lt
    have H4_mine := hide o4_mine
    clear o4_mine
    have hy4 : w.heap.size ≤ w4.heap.size := hB4.size
    clear hb4
    go_wp2_with fail
    refine (error_any 9 9 _ (hE.below (B := w.heap.size) (by go_grown) hE.pos)).mono ?_
    rintro e w5 ⟨rfl, hb5⟩
    have hB5 : Below w.heap.size w w5 := by
      refine Below.trans ?_ (Below.mono hb5 ?_)
      · go_grown
      · first | omega | (simp; done) | (simp; omega)
    have o5_r : ObjAt w5 (w.heap.size) 47 [.int .i64 e, .int .i64 k, .int .i64 o] := ObjAt.below (H4_r.out) hb5
    have o5_one : ObjAt w5 (w1.heap.size) 47 [.int .i64 0, .int .i64 v5, .int .i64 0] := ObjAt.below (H4_one.out) hb5
    have o5_mine : ObjAt w5 (w2.heap.size) 56 [.int .i64 0, .int .i64 3, .int .i64 10, .int .i64 g5] := ObjAt.below (H4_mine.out) hb5
    clear q4_r_0 q4_r_1 q4_r_2 H4_r q4_one_0 q4_one_1 q4_one_2 H4_one q4_mine_0 q4_mine_1 q4_mine_2 q4_mine_3 H4_mine
    have q5_r_0 := o5_r.cell (i := 0) rfl
    have q5_r_1 := o5_r.cell (i := 1) rfl
    have q5_r_2 := o5_r.cell (i := 2) rfl
    have l5_r := o5_r.lt
    have H5_r := hide o5_r
    clear o5_r
    have q5_one_0 := o5_one.cell (i := 0) rfl
    have q5_one_1 := o5_one.cell (i := 1) rfl
    have q5_one_2 := o5_one.cell (i := 2) rfl
    have l5_one := o5_one.lt
    have H5_one := hide o5_one
    clear o5_one
    have q5_mine_0 := o5_mine.cell (i := 0) rfl
    have q5_mine_1 := o5_mine.cell (i := 1) rfl
    have q5_mine_2 := o5_mine.cell (i := 2) rfl
    have q5_mine_3 := o5_mine.cell (i := 3) rfl
    have l5_mine := o5_mine.lt
    have H5_mine := hide o5_mine
    clear o5_mine
    have hy5 : w.heap.size ≤ w5.heap.size := hB5.size
    clear hb5
    go_wp2_with fail
    refine (MK.out _).mono ?_
    rintro e w6 ⟨rfl, hb6⟩
    have hB6 : Below w.heap.size w w6 := by
      refine Below.trans ?_ (Below.mono hb6 ?_)
      · go_grown
      · first | omega | (simp; done) | (simp; omega)
    have o6_r : ObjAt w6 (w.heap.size) 47 [.int .i64 e, .int .i64 k, .int .i64 o] := ObjAt.below (H5_r.out) hb6
    have o6_one : ObjAt w6 (w1.heap.size) 47 [.int .i64 0, .int .i64 v5, .int .i64 0] := ObjAt.below (H5_one.out) hb6
    have o6_mine : ObjAt w6 (w2.heap.size) 56 [.int .i64 0, .int .i64 3, .int .i64 10, .int .i64 g5] := ObjAt.below (H5_mine.out) hb6
    clear q5_r_0 q5_r_1 q5_r_2 H5_r q5_one_0 q5_one_1 q5_one_2 H5_one q5_mine_0 q5_mine_1 q5_mine_2 q5_mine_3 H5_mine
    have q6_r_0 := o6_r.cell (i := 0) rfl
    have q6_r_1 := o6_r.cell (i := 1) rfl
    have q6_r_2 := o6_r.cell (i := 2) rfl
    have l6_r := o6_r.lt
    have H6_r := hide o6_r
    clear o6_r
    have q6_one_0 := o6_one.cell (i := 0) rfl
    have q6_one_1 := o6_one.cell (i := 1) rfl
    have q6_one_2 := o6_one.cell (i := 2) rfl
    have l6_one := o6_one.lt
    have H6_one := hide o6_one
    clear o6_one
    have q6_mine_0 := o6_mine.cell (i := 0) rfl
    have q6_mine_1 := o6_mine.cell (i := 1) rfl
    have q6_mine_2 := o6_mine.cell (i := 2) rfl
    have q6_mine_3 := o6_mine.cell (i := 3) rfl
    have l6_mine := o6_mine.lt
    have H6_mine := hide o6_mine
    clear o6_mine
    have hy6 : w.heap.size ≤ w6.heap.size := hB6.size
    clear hb6
    by_cases hw1 : now < 0
    ·
      go_wp2
      go_ret
      exact ⟨rfl, by go_grown⟩
    ·
      have hw2 : 0 ≤ now := by omega
      by_cases hw3 : 100000 < now
      ·
        go_wp2
        go_ret
        exact ⟨rfl, by go_grown⟩
      ·
        have hw4 : now ≤ 100000 := by omega
        have ht : tmB now = true := tmB_true.2 ⟨hw2, hw4⟩
        clear hw1 hw3
        by_cases hlt : u < now
        ·
          have CA : Hid (∀ W, Calls Tryd.prog 43 #[.agg #[.int .i64 e, .int .i64 k, .int .i64 o], .agg #[.int .i64 e, .int .i64 n, .int .i64 u, .int .i64 g], .int .i64 now] W fun r w' => r = .returned (.iface 94 (.int .i64 9)) ∧ Below W.heap.size W w') := ticketCheck_eq (c := 9) (by rw [q0 now ht, if_pos hlt])
          clear q0 q1 q2 ht
          go_wp2_with fail
          refine (CA.out _).mono ?_
          rintro e w7 ⟨rfl, hb7⟩
          have hB7 : Below w.heap.size w w7 := by
            refine Below.trans ?_ (Below.mono hb7 ?_)
            · go_grown
            · first | omega | (simp; done) | (simp; omega)
          have o7_r : ObjAt w7 (w.heap.size) 47 [.int .i64 e, .int .i64 k, .int .i64 o] := ObjAt.below (ObjAt.alloc (H6_r.out) _) hb7
          have o7_one : ObjAt w7 (w1.heap.size) 47 [.int .i64 0, .int .i64 v5, .int .i64 0] := ObjAt.below (ObjAt.alloc (H6_one.out) _) hb7
          have o7_mine : ObjAt w7 (w2.heap.size) 56 [.int .i64 0, .int .i64 3, .int .i64 10, .int .i64 g5] := ObjAt.below (ObjAt.alloc (H6_mine.out) _) hb7
          have o7_t : ObjAt w7 (w6.heap.size) 56 [.int .i64 e, .int .i64 n, .int .i64 u, .int .i64 g] := ObjAt.below (objNew (by simp)) hb7
          clear q6_r_0 q6_r_1 q6_r_2 H6_r q6_one_0 q6_one_1 q6_one_2 H6_one q6_mine_0 q6_mine_1 q6_mine_2 q6_mine_3 H6_mine
          have q7_r_0 := o7_r.cell (i := 0) rfl
          have q7_r_1 := o7_r.cell (i := 1) rfl
          have q7_r_2 := o7_r.cell (i := 2) rfl
          have l7_r := o7_r.lt
          have H7_r := hide o7_r
          clear o7_r
          have q7_one_0 := o7_one.cell (i := 0) rfl
          have q7_one_1 := o7_one.cell (i := 1) rfl
          have q7_one_2 := o7_one.cell (i := 2) rfl
          have l7_one := o7_one.lt
          have H7_one := hide o7_one
          clear o7_one
          have q7_mine_0 := o7_mine.cell (i := 0) rfl
          have q7_mine_1 := o7_mine.cell (i := 1) rfl
          have q7_mine_2 := o7_mine.cell (i := 2) rfl
          have q7_mine_3 := o7_mine.cell (i := 3) rfl
          have l7_mine := o7_mine.lt
          have H7_mine := hide o7_mine
          clear o7_mine
          have q7_t_0 := o7_t.cell (i := 0) rfl
          have q7_t_1 := o7_t.cell (i := 1) rfl
          have q7_t_2 := o7_t.cell (i := 2) rfl
          have q7_t_3 := o7_t.cell (i := 3) rfl
          have l7_t := o7_t.lt
          have H7_t := hide o7_t
          clear o7_t
          have hy7 : w.heap.size ≤ w7.heap.size := hB7.size
          clear hb7
          go_wp2_with fail
          refine (error_any 9 9 _ (hE.below (B := w.heap.size) (by go_grown) hE.pos)).mono ?_
          rintro e w8 ⟨rfl, hb8⟩
          have hB8 : Below w.heap.size w w8 := by
            refine Below.trans ?_ (Below.mono hb8 ?_)
            · go_grown
            · first | omega | (simp; done) | (simp; omega)
          have o8_r : ObjAt w8 (w.heap.size) 47 [.int .i64 e, .int .i64 k, .int .i64 o] := ObjAt.below (H7_r.out) hb8
          have o8_one : ObjAt w8 (w1.heap.size) 47 [.int .i64 0, .int .i64 v5, .int .i64 0] := ObjAt.below (H7_one.out) hb8
          have o8_mine : ObjAt w8 (w2.heap.size) 56 [.int .i64 0, .int .i64 3, .int .i64 10, .int .i64 g5] := ObjAt.below (H7_mine.out) hb8
          have o8_t : ObjAt w8 (w6.heap.size) 56 [.int .i64 e, .int .i64 n, .int .i64 u, .int .i64 g] := ObjAt.below (H7_t.out) hb8
          clear q7_r_0 q7_r_1 q7_r_2 H7_r q7_one_0 q7_one_1 q7_one_2 H7_one q7_mine_0 q7_mine_1 q7_mine_2 q7_mine_3 H7_mine q7_t_0 q7_t_1 q7_t_2 q7_t_3 H7_t
          have q8_r_0 := o8_r.cell (i := 0) rfl
          have q8_r_1 := o8_r.cell (i := 1) rfl
          have q8_r_2 := o8_r.cell (i := 2) rfl
          have l8_r := o8_r.lt
          have H8_r := hide o8_r
          clear o8_r
          have q8_one_0 := o8_one.cell (i := 0) rfl
          have q8_one_1 := o8_one.cell (i := 1) rfl
          have q8_one_2 := o8_one.cell (i := 2) rfl
          have l8_one := o8_one.lt
          have H8_one := hide o8_one
          clear o8_one
          have q8_mine_0 := o8_mine.cell (i := 0) rfl
          have q8_mine_1 := o8_mine.cell (i := 1) rfl
          have q8_mine_2 := o8_mine.cell (i := 2) rfl
          have q8_mine_3 := o8_mine.cell (i := 3) rfl
          have l8_mine := o8_mine.lt
          have H8_mine := hide o8_mine
          clear o8_mine
          have q8_t_0 := o8_t.cell (i := 0) rfl
          have q8_t_1 := o8_t.cell (i := 1) rfl
          have q8_t_2 := o8_t.cell (i := 2) rfl
          have q8_t_3 := o8_t.cell (i := 3) rfl
          have l8_t := o8_t.lt
          have H8_t := hide o8_t
          clear o8_t
          have hy8 : w.heap.size ≤ w8.heap.size := hB8.size
          clear hb8
          go_wp2
          go_ret
          exact ⟨rfl, by go_grown⟩
        ·
          have hge : now ≤ u := by omega
          have CA : Hid (∀ W, Calls Tryd.prog 43 #[.agg #[.int .i64 e, .int .i64 k, .int .i64 o], .agg #[.int .i64 e, .int .i64 n, .int .i64 u, .int .i64 g], .int .i64 now] W fun r w' => r = .returned (.nilIface) ∧ Below W.heap.size W w') := ticketCheck_eq (c := 0) (by rw [q0 now ht, if_neg hlt])
          have Q1 := hide q1
          have Q2 := hide q2
          have HT := hide ht
          clear q0 hlt q1 q2 ht
          go_wp2_with fail
          refine (CA.out _).mono ?_
          rintro e w7 ⟨rfl, hb7⟩
          have hB7 : Below w.heap.size w w7 := by
            refine Below.trans ?_ (Below.mono hb7 ?_)
            · go_grown
            · first | omega | (simp; done) | (simp; omega)
          have o7_r : ObjAt w7 (w.heap.size) 47 [.int .i64 e, .int .i64 k, .int .i64 o] := ObjAt.below (ObjAt.alloc (H6_r.out) _) hb7
          have o7_one : ObjAt w7 (w1.heap.size) 47 [.int .i64 0, .int .i64 v5, .int .i64 0] := ObjAt.below (ObjAt.alloc (H6_one.out) _) hb7
          have o7_mine : ObjAt w7 (w2.heap.size) 56 [.int .i64 0, .int .i64 3, .int .i64 10, .int .i64 g5] := ObjAt.below (ObjAt.alloc (H6_mine.out) _) hb7
          have o7_t : ObjAt w7 (w6.heap.size) 56 [.int .i64 e, .int .i64 n, .int .i64 u, .int .i64 g] := ObjAt.below (objNew (by simp)) hb7
          clear q6_r_0 q6_r_1 q6_r_2 H6_r q6_one_0 q6_one_1 q6_one_2 H6_one q6_mine_0 q6_mine_1 q6_mine_2 q6_mine_3 H6_mine
          have q7_r_0 := o7_r.cell (i := 0) rfl
          have q7_r_1 := o7_r.cell (i := 1) rfl
          have q7_r_2 := o7_r.cell (i := 2) rfl
          have l7_r := o7_r.lt
          have H7_r := hide o7_r
          clear o7_r
          have q7_one_0 := o7_one.cell (i := 0) rfl
          have q7_one_1 := o7_one.cell (i := 1) rfl
          have q7_one_2 := o7_one.cell (i := 2) rfl
          have l7_one := o7_one.lt
          have H7_one := hide o7_one
          clear o7_one
          have q7_mine_0 := o7_mine.cell (i := 0) rfl
          have q7_mine_1 := o7_mine.cell (i := 1) rfl
          have q7_mine_2 := o7_mine.cell (i := 2) rfl
          have q7_mine_3 := o7_mine.cell (i := 3) rfl
          have l7_mine := o7_mine.lt
          have H7_mine := hide o7_mine
          clear o7_mine
          have q7_t_0 := o7_t.cell (i := 0) rfl
          have q7_t_1 := o7_t.cell (i := 1) rfl
          have q7_t_2 := o7_t.cell (i := 2) rfl
          have q7_t_3 := o7_t.cell (i := 3) rfl
          have l7_t := o7_t.lt
          have H7_t := hide o7_t
          clear o7_t
          have hy7 : w.heap.size ≤ w7.heap.size := hB7.size
          clear hb7
          by_cases x1 : ot = n
          ·
            have tx1 : (ot != n) = false := by simp [x1]
            clear x1
            by_cases y1 : ot = u
            ·
              have ty1 : (ot == u) = true := by simp [y1]
              clear y1
              go_wp2
              go_ret
              exact ⟨rfl, by go_grown⟩
            ·
              have ty1 : (ot == u) = false := beq_eq_false_iff_ne.2 y1
              by_cases y2 : ot < 0
              ·
                clear y1
                go_wp2
                go_ret
                exact ⟨rfl, by go_grown⟩
              ·
                have y2' : 0 ≤ ot := by omega
                by_cases y3 : 100000 < ot
                ·
                  clear y1 y2
                  go_wp2
                  go_ret
                  exact ⟨rfl, by go_grown⟩
                ·
                  have y3' : ot ≤ 100000 := by omega
                  have CC : Hid (∀ W, Calls Tryd.prog 43 #[.agg #[.int .i64 e, .int .i64 k, .int .i64 o], .agg #[.int .i64 e, .int .i64 n, .int .i64 ot, .int .i64 g], .int .i64 now] W fun r w' => r = .returned (.iface 94 (.int .i64 8)) ∧ Below W.heap.size W w') := ticketCheck_eq (Q2.out HT.out (tmB_true.2 ⟨y2', y3'⟩) y1)
                  clear y1 y2 y3
                  go_wp2_with fail
                  refine (CC.out _).mono ?_
                  rintro e w8 ⟨rfl, hb8⟩
                  have hB8 : Below w.heap.size w w8 := by
                    refine Below.trans ?_ (Below.mono hb8 ?_)
                    · go_grown
                    · first | omega | (simp; done) | (simp; omega)
                  have o8_r : ObjAt w8 (w.heap.size) 47 [.int .i64 e, .int .i64 k, .int .i64 o] := ObjAt.below (ObjAt.alloc (H7_r.out) _) hb8
                  have o8_one : ObjAt w8 (w1.heap.size) 47 [.int .i64 0, .int .i64 v5, .int .i64 0] := ObjAt.below (ObjAt.alloc (H7_one.out) _) hb8
                  have o8_mine : ObjAt w8 (w2.heap.size) 56 [.int .i64 0, .int .i64 3, .int .i64 10, .int .i64 g5] := ObjAt.below (ObjAt.alloc (H7_mine.out) _) hb8
                  have o8_t : ObjAt w8 (w6.heap.size) 56 [.int .i64 e, .int .i64 n, .int .i64 u, .int .i64 g] := ObjAt.below (ObjAt.alloc (H7_t.out) _) hb8
                  have o8_x : ObjAt w8 (w7.heap.size) 56 [.int .i64 e, .int .i64 n, .int .i64 ot, .int .i64 g] := ObjAt.below (objNew (by simp)) hb8
                  clear q7_r_0 q7_r_1 q7_r_2 H7_r q7_one_0 q7_one_1 q7_one_2 H7_one q7_mine_0 q7_mine_1 q7_mine_2 q7_mine_3 H7_mine q7_t_0 q7_t_1 q7_t_2 q7_t_3 H7_t
                  have q8_r_0 := o8_r.cell (i := 0) rfl
                  have q8_r_1 := o8_r.cell (i := 1) rfl
                  have q8_r_2 := o8_r.cell (i := 2) rfl
                  have l8_r := o8_r.lt
                  have H8_r := hide o8_r
                  clear o8_r
                  have q8_one_0 := o8_one.cell (i := 0) rfl
                  have q8_one_1 := o8_one.cell (i := 1) rfl
                  have q8_one_2 := o8_one.cell (i := 2) rfl
                  have l8_one := o8_one.lt
                  have H8_one := hide o8_one
                  clear o8_one
                  have q8_mine_0 := o8_mine.cell (i := 0) rfl
                  have q8_mine_1 := o8_mine.cell (i := 1) rfl
                  have q8_mine_2 := o8_mine.cell (i := 2) rfl
                  have q8_mine_3 := o8_mine.cell (i := 3) rfl
                  have l8_mine := o8_mine.lt
                  have H8_mine := hide o8_mine
                  clear o8_mine
                  have q8_t_0 := o8_t.cell (i := 0) rfl
                  have q8_t_1 := o8_t.cell (i := 1) rfl
                  have q8_t_2 := o8_t.cell (i := 2) rfl
                  have q8_t_3 := o8_t.cell (i := 3) rfl
                  have l8_t := o8_t.lt
                  have H8_t := hide o8_t
                  clear o8_t
                  have q8_x_0 := o8_x.cell (i := 0) rfl
                  have f8_x_0 := o8_x.free 0
                  have q8_x_1 := o8_x.cell (i := 1) rfl
                  have f8_x_1 := o8_x.free 1
                  have q8_x_2 := o8_x.cell (i := 2) rfl
                  have f8_x_2 := o8_x.free 2
                  have q8_x_3 := o8_x.cell (i := 3) rfl
                  have f8_x_3 := o8_x.free 3
                  have l8_x := o8_x.lt
                  have H8_x := hide o8_x
                  clear o8_x
                  have hy8 : w.heap.size ≤ w8.heap.size := hB8.size
                  clear hb8
                  go_wp2_with fail
                  refine (error_any 8 8 _ (hE.below (B := w.heap.size) (by go_grown) hE.pos)).mono ?_
                  rintro e w9 ⟨rfl, hb9⟩
                  have hB9 : Below w.heap.size w w9 := by
                    refine Below.trans ?_ (Below.mono hb9 ?_)
                    · go_grown
                    · first | omega | (simp; done) | (simp; omega)
                  have o9_r : ObjAt w9 (w.heap.size) 47 [.int .i64 e, .int .i64 k, .int .i64 o] := ObjAt.below (H8_r.out) hb9
                  have o9_one : ObjAt w9 (w1.heap.size) 47 [.int .i64 0, .int .i64 v5, .int .i64 0] := ObjAt.below (H8_one.out) hb9
                  have o9_mine : ObjAt w9 (w2.heap.size) 56 [.int .i64 0, .int .i64 3, .int .i64 10, .int .i64 g5] := ObjAt.below (H8_mine.out) hb9
                  have o9_t : ObjAt w9 (w6.heap.size) 56 [.int .i64 e, .int .i64 n, .int .i64 u, .int .i64 g] := ObjAt.below (H8_t.out) hb9
                  have o9_x : ObjAt w9 (w7.heap.size) 56 [.int .i64 e, .int .i64 n, .int .i64 ot, .int .i64 g] := ObjAt.below (H8_x.out) hb9
                  clear q8_r_0 q8_r_1 q8_r_2 H8_r q8_one_0 q8_one_1 q8_one_2 H8_one q8_mine_0 q8_mine_1 q8_mine_2 q8_mine_3 H8_mine q8_t_0 q8_t_1 q8_t_2 q8_t_3 H8_t q8_x_0 f8_x_0 q8_x_1 f8_x_1 q8_x_2 f8_x_2 q8_x_3 f8_x_3 H8_x
                  have q9_r_0 := o9_r.cell (i := 0) rfl
                  have q9_r_1 := o9_r.cell (i := 1) rfl
                  have q9_r_2 := o9_r.cell (i := 2) rfl
                  have l9_r := o9_r.lt
                  have H9_r := hide o9_r
                  clear o9_r
                  have q9_one_0 := o9_one.cell (i := 0) rfl
                  have q9_one_1 := o9_one.cell (i := 1) rfl
                  have q9_one_2 := o9_one.cell (i := 2) rfl
                  have l9_one := o9_one.lt
                  have H9_one := hide o9_one
                  clear o9_one
                  have q9_mine_0 := o9_mine.cell (i := 0) rfl
                  have q9_mine_1 := o9_mine.cell (i := 1) rfl
                  have q9_mine_2 := o9_mine.cell (i := 2) rfl
                  have q9_mine_3 := o9_mine.cell (i := 3) rfl
                  have l9_mine := o9_mine.lt
                  have H9_mine := hide o9_mine
                  clear o9_mine
                  have q9_t_0 := o9_t.cell (i := 0) rfl
                  have q9_t_1 := o9_t.cell (i := 1) rfl
                  have q9_t_2 := o9_t.cell (i := 2) rfl
                  have q9_t_3 := o9_t.cell (i := 3) rfl
                  have l9_t := o9_t.lt
                  have H9_t := hide o9_t
                  clear o9_t
                  have q9_x_0 := o9_x.cell (i := 0) rfl
                  have f9_x_0 := o9_x.free 0
                  have q9_x_1 := o9_x.cell (i := 1) rfl
                  have f9_x_1 := o9_x.free 1
                  have q9_x_2 := o9_x.cell (i := 2) rfl
                  have f9_x_2 := o9_x.free 2
                  have q9_x_3 := o9_x.cell (i := 3) rfl
                  have f9_x_3 := o9_x.free 3
                  have l9_x := o9_x.lt
                  have H9_x := hide o9_x
                  clear o9_x
                  have hy9 : w.heap.size ≤ w9.heap.size := hB9.size
                  clear hb9
                  go_wp2
                  go_ret
                  exact ⟨rfl, by go_grown⟩
          ·
            have tx1 : (ot != n) = true := bne_iff_ne.2 x1
            by_cases x2 : ot < 0
            ·
              clear x1
              have ty1 : (ot == u) = false := beq_eq_false_iff_ne.2 (by omega)
              go_wp2
              go_ret
              exact ⟨rfl, by go_grown⟩
            ·
              have x2' : 0 ≤ ot := by omega
              by_cases x3 : 999982 < ot
              ·
                clear x1 x2
                have ty1 : (ot == u) = false := beq_eq_false_iff_ne.2 (by omega)
                have y3 : 100000 < ot := by omega
                have y2' : 0 ≤ ot := by omega
                go_wp2
                go_ret
                exact ⟨rfl, by go_grown⟩
              ·
                have x3' : ot ≤ 999982 := by omega
                have CB : Hid (∀ W, Calls Tryd.prog 43 #[.agg #[.int .i64 e, .int .i64 k, .int .i64 o], .agg #[.int .i64 e, .int .i64 ot, .int .i64 u, .int .i64 g], .int .i64 now] W fun r w' => r = .returned (.iface 94 (.int .i64 8)) ∧ Below W.heap.size W w') := ticketCheck_eq (Q1.out HT.out (inB_true.2 ⟨x2', by omega⟩) x1)
                clear x1 x2 x3
                go_wp2_with fail
                refine (CB.out _).mono ?_
                rintro e w8 ⟨rfl, hb8⟩
                have hB8 : Below w.heap.size w w8 := by
                  refine Below.trans ?_ (Below.mono hb8 ?_)
                  · go_grown
                  · first | omega | (simp; done) | (simp; omega)
                have o8_r : ObjAt w8 (w.heap.size) 47 [.int .i64 e, .int .i64 k, .int .i64 o] := ObjAt.below (ObjAt.alloc (H7_r.out) _) hb8
                have o8_one : ObjAt w8 (w1.heap.size) 47 [.int .i64 0, .int .i64 v5, .int .i64 0] := ObjAt.below (ObjAt.alloc (H7_one.out) _) hb8
                have o8_mine : ObjAt w8 (w2.heap.size) 56 [.int .i64 0, .int .i64 3, .int .i64 10, .int .i64 g5] := ObjAt.below (ObjAt.alloc (H7_mine.out) _) hb8
                have o8_t : ObjAt w8 (w6.heap.size) 56 [.int .i64 e, .int .i64 n, .int .i64 u, .int .i64 g] := ObjAt.below (ObjAt.alloc (H7_t.out) _) hb8
                have o8_x : ObjAt w8 (w7.heap.size) 56 [.int .i64 e, .int .i64 ot, .int .i64 u, .int .i64 g] := ObjAt.below (objNew (by simp)) hb8
                clear q7_r_0 q7_r_1 q7_r_2 H7_r q7_one_0 q7_one_1 q7_one_2 H7_one q7_mine_0 q7_mine_1 q7_mine_2 q7_mine_3 H7_mine q7_t_0 q7_t_1 q7_t_2 q7_t_3 H7_t
                have q8_r_0 := o8_r.cell (i := 0) rfl
                have q8_r_1 := o8_r.cell (i := 1) rfl
                have q8_r_2 := o8_r.cell (i := 2) rfl
                have l8_r := o8_r.lt
                have H8_r := hide o8_r
                clear o8_r
                have q8_one_0 := o8_one.cell (i := 0) rfl
                have q8_one_1 := o8_one.cell (i := 1) rfl
                have q8_one_2 := o8_one.cell (i := 2) rfl
                have l8_one := o8_one.lt
                have H8_one := hide o8_one
                clear o8_one
                have q8_mine_0 := o8_mine.cell (i := 0) rfl
                have q8_mine_1 := o8_mine.cell (i := 1) rfl
                have q8_mine_2 := o8_mine.cell (i := 2) rfl
                have q8_mine_3 := o8_mine.cell (i := 3) rfl
                have l8_mine := o8_mine.lt
                have H8_mine := hide o8_mine
                clear o8_mine
                have q8_t_0 := o8_t.cell (i := 0) rfl
                have q8_t_1 := o8_t.cell (i := 1) rfl
                have q8_t_2 := o8_t.cell (i := 2) rfl
                have q8_t_3 := o8_t.cell (i := 3) rfl
                have l8_t := o8_t.lt
                have H8_t := hide o8_t
                clear o8_t
                have q8_x_0 := o8_x.cell (i := 0) rfl
                have f8_x_0 := o8_x.free 0
                have q8_x_1 := o8_x.cell (i := 1) rfl
                have f8_x_1 := o8_x.free 1
                have q8_x_2 := o8_x.cell (i := 2) rfl
                have f8_x_2 := o8_x.free 2
                have q8_x_3 := o8_x.cell (i := 3) rfl
                have f8_x_3 := o8_x.free 3
                have l8_x := o8_x.lt
                have H8_x := hide o8_x
                clear o8_x
                have hy8 : w.heap.size ≤ w8.heap.size := hB8.size
                clear hb8
                go_wp2_with fail
                refine (error_any 8 8 _ (hE.below (B := w.heap.size) (by go_grown) hE.pos)).mono ?_
                rintro e w9 ⟨rfl, hb9⟩
                have hB9 : Below w.heap.size w w9 := by
                  refine Below.trans ?_ (Below.mono hb9 ?_)
                  · go_grown
                  · first | omega | (simp; done) | (simp; omega)
                have o9_r : ObjAt w9 (w.heap.size) 47 [.int .i64 e, .int .i64 k, .int .i64 o] := ObjAt.below (H8_r.out) hb9
                have o9_one : ObjAt w9 (w1.heap.size) 47 [.int .i64 0, .int .i64 v5, .int .i64 0] := ObjAt.below (H8_one.out) hb9
                have o9_mine : ObjAt w9 (w2.heap.size) 56 [.int .i64 0, .int .i64 3, .int .i64 10, .int .i64 g5] := ObjAt.below (H8_mine.out) hb9
                have o9_t : ObjAt w9 (w6.heap.size) 56 [.int .i64 e, .int .i64 n, .int .i64 u, .int .i64 g] := ObjAt.below (H8_t.out) hb9
                have o9_x : ObjAt w9 (w7.heap.size) 56 [.int .i64 e, .int .i64 ot, .int .i64 u, .int .i64 g] := ObjAt.below (H8_x.out) hb9
                clear q8_r_0 q8_r_1 q8_r_2 H8_r q8_one_0 q8_one_1 q8_one_2 H8_one q8_mine_0 q8_mine_1 q8_mine_2 q8_mine_3 H8_mine q8_t_0 q8_t_1 q8_t_2 q8_t_3 H8_t q8_x_0 f8_x_0 q8_x_1 f8_x_1 q8_x_2 f8_x_2 q8_x_3 f8_x_3 H8_x
                have q9_r_0 := o9_r.cell (i := 0) rfl
                have q9_r_1 := o9_r.cell (i := 1) rfl
                have q9_r_2 := o9_r.cell (i := 2) rfl
                have l9_r := o9_r.lt
                have H9_r := hide o9_r
                clear o9_r
                have q9_one_0 := o9_one.cell (i := 0) rfl
                have q9_one_1 := o9_one.cell (i := 1) rfl
                have q9_one_2 := o9_one.cell (i := 2) rfl
                have l9_one := o9_one.lt
                have H9_one := hide o9_one
                clear o9_one
                have q9_mine_0 := o9_mine.cell (i := 0) rfl
                have q9_mine_1 := o9_mine.cell (i := 1) rfl
                have q9_mine_2 := o9_mine.cell (i := 2) rfl
                have q9_mine_3 := o9_mine.cell (i := 3) rfl
                have l9_mine := o9_mine.lt
                have H9_mine := hide o9_mine
                clear o9_mine
                have q9_t_0 := o9_t.cell (i := 0) rfl
                have q9_t_1 := o9_t.cell (i := 1) rfl
                have q9_t_2 := o9_t.cell (i := 2) rfl
                have q9_t_3 := o9_t.cell (i := 3) rfl
                have l9_t := o9_t.lt
                have H9_t := hide o9_t
                clear o9_t
                have q9_x_0 := o9_x.cell (i := 0) rfl
                have f9_x_0 := o9_x.free 0
                have q9_x_1 := o9_x.cell (i := 1) rfl
                have f9_x_1 := o9_x.free 1
                have q9_x_2 := o9_x.cell (i := 2) rfl
                have f9_x_2 := o9_x.free 2
                have q9_x_3 := o9_x.cell (i := 3) rfl
                have f9_x_3 := o9_x.free 3
                have l9_x := o9_x.lt
                have H9_x := hide o9_x
                clear o9_x
                have hy9 : w.heap.size ≤ w9.heap.size := hB9.size
                clear hb9
                go_upto_region 19 with (fail)
                obtain ⟨w10, hW10⟩ : ∃ W : World, W = ((((w9.setCell ⟨w7.heap.size, 0, none⟩ (.int .i64 e)).setCell ⟨w7.heap.size, 1, none⟩ (.int .i64 n)).setCell ⟨w7.heap.size, 2, none⟩ (.int .i64 u)).setCell ⟨w7.heap.size, 3, none⟩ (.int .i64 g)).setCell ⟨w7.heap.size, 2, none⟩ (.int .i64 ot) := ⟨_, rfl⟩
                have hB10 : Below w.heap.size w w10 := by rw [hW10]; go_grown
                have o10_r : ObjAt w10 (w.heap.size) 47 [.int .i64 e, .int .i64 k, .int .i64 o] := by rw [hW10]; exact ObjAt.setOther (ObjAt.other4 (H9_r.out) (by omega)) (by simp; omega) _
                have o10_one : ObjAt w10 (w1.heap.size) 47 [.int .i64 0, .int .i64 v5, .int .i64 0] := by rw [hW10]; exact ObjAt.setOther (ObjAt.other4 (H9_one.out) (by omega)) (by simp; omega) _
                have o10_mine : ObjAt w10 (w2.heap.size) 56 [.int .i64 0, .int .i64 3, .int .i64 10, .int .i64 g5] := by rw [hW10]; exact ObjAt.setOther (ObjAt.other4 (H9_mine.out) (by omega)) (by simp; omega) _
                have o10_t : ObjAt w10 (w6.heap.size) 56 [.int .i64 e, .int .i64 n, .int .i64 u, .int .i64 g] := by rw [hW10]; exact ObjAt.setOther (ObjAt.other4 (H9_t.out) (by omega)) (by simp; omega) _
                have o10_x : ObjAt w10 (w7.heap.size) 56 [.int .i64 e, .int .i64 n, .int .i64 ot, .int .i64 g] := by rw [hW10]; exact ObjAt.set (ObjAt.set4 (H9_x.out)) 2 _
                rw [← hW10]
                clear hW10
                clear q9_r_0 q9_r_1 q9_r_2 H9_r q9_one_0 q9_one_1 q9_one_2 H9_one q9_mine_0 q9_mine_1 q9_mine_2 q9_mine_3 H9_mine q9_t_0 q9_t_1 q9_t_2 q9_t_3 H9_t q9_x_0 f9_x_0 q9_x_1 f9_x_1 q9_x_2 f9_x_2 q9_x_3 f9_x_3 H9_x
                have q10_r_0 := o10_r.cell (i := 0) rfl
                have q10_r_1 := o10_r.cell (i := 1) rfl
                have q10_r_2 := o10_r.cell (i := 2) rfl
                have l10_r := o10_r.lt
                have H10_r := hide o10_r
                clear o10_r
                have q10_one_0 := o10_one.cell (i := 0) rfl
                have q10_one_1 := o10_one.cell (i := 1) rfl
                have q10_one_2 := o10_one.cell (i := 2) rfl
                have l10_one := o10_one.lt
                have H10_one := hide o10_one
                clear o10_one
                have q10_mine_0 := o10_mine.cell (i := 0) rfl
                have q10_mine_1 := o10_mine.cell (i := 1) rfl
                have q10_mine_2 := o10_mine.cell (i := 2) rfl
                have q10_mine_3 := o10_mine.cell (i := 3) rfl
                have l10_mine := o10_mine.lt
                have H10_mine := hide o10_mine
                clear o10_mine
                have q10_t_0 := o10_t.cell (i := 0) rfl
                have q10_t_1 := o10_t.cell (i := 1) rfl
                have q10_t_2 := o10_t.cell (i := 2) rfl
                have q10_t_3 := o10_t.cell (i := 3) rfl
                have l10_t := o10_t.lt
                have H10_t := hide o10_t
                clear o10_t
                have q10_x_0 := o10_x.cell (i := 0) rfl
                have f10_x_0 := o10_x.free 0
                have q10_x_1 := o10_x.cell (i := 1) rfl
                have f10_x_1 := o10_x.free 1
                have q10_x_2 := o10_x.cell (i := 2) rfl
                have f10_x_2 := o10_x.free 2
                have q10_x_3 := o10_x.cell (i := 3) rfl
                have f10_x_3 := o10_x.free 3
                have l10_x := o10_x.lt
                have H10_x := hide o10_x
                clear o10_x
                have hy10 : w.heap.size ≤ w10.heap.size := hB10.size
                by_cases y1 : ot = u
                ·
                  have ty1 : (ot == u) = true := by simp [y1]
                  clear y1
                  go_wp2
                  go_ret
                  exact ⟨rfl, by go_grown⟩
                ·
                  have ty1 : (ot == u) = false := beq_eq_false_iff_ne.2 y1
                  have y2 : 0 ≤ ot := by omega
                  have y2' : 0 ≤ ot := by omega
                  by_cases y3 : 100000 < ot
                  ·
                    clear y1 y2
                    go_wp2
                    go_ret
                    exact ⟨rfl, by go_grown⟩
                  ·
                    have y3' : ot ≤ 100000 := by omega
                    have CC : Hid (∀ W, Calls Tryd.prog 43 #[.agg #[.int .i64 e, .int .i64 k, .int .i64 o], .agg #[.int .i64 e, .int .i64 n, .int .i64 ot, .int .i64 g], .int .i64 now] W fun r w' => r = .returned (.iface 94 (.int .i64 8)) ∧ Below W.heap.size W w') := ticketCheck_eq (Q2.out HT.out (tmB_true.2 ⟨y2', y3'⟩) y1)
                    clear y1 y2 y3
                    go_wp2_with fail
                    refine (CC.out _).mono ?_
                    rintro e w11 ⟨rfl, hb11⟩
                    have hB11 : Below w.heap.size w w11 := by
                      refine Below.trans ?_ (Below.mono hb11 ?_)
                      · go_grown
                      · first | omega | (simp; done) | (simp; omega)
                    have o11_r : ObjAt w11 (w.heap.size) 47 [.int .i64 e, .int .i64 k, .int .i64 o] := ObjAt.below (H10_r.out) hb11
                    have o11_one : ObjAt w11 (w1.heap.size) 47 [.int .i64 0, .int .i64 v5, .int .i64 0] := ObjAt.below (H10_one.out) hb11
                    have o11_mine : ObjAt w11 (w2.heap.size) 56 [.int .i64 0, .int .i64 3, .int .i64 10, .int .i64 g5] := ObjAt.below (H10_mine.out) hb11
                    have o11_t : ObjAt w11 (w6.heap.size) 56 [.int .i64 e, .int .i64 n, .int .i64 u, .int .i64 g] := ObjAt.below (H10_t.out) hb11
                    have o11_x : ObjAt w11 (w7.heap.size) 56 [.int .i64 e, .int .i64 n, .int .i64 ot, .int .i64 g] := ObjAt.below (H10_x.out) hb11
                    clear q10_r_0 q10_r_1 q10_r_2 H10_r q10_one_0 q10_one_1 q10_one_2 H10_one q10_mine_0 q10_mine_1 q10_mine_2 q10_mine_3 H10_mine q10_t_0 q10_t_1 q10_t_2 q10_t_3 H10_t q10_x_0 f10_x_0 q10_x_1 f10_x_1 q10_x_2 f10_x_2 q10_x_3 f10_x_3 H10_x
                    have q11_r_0 := o11_r.cell (i := 0) rfl
                    have q11_r_1 := o11_r.cell (i := 1) rfl
                    have q11_r_2 := o11_r.cell (i := 2) rfl
                    have l11_r := o11_r.lt
                    have H11_r := hide o11_r
                    clear o11_r
                    have q11_one_0 := o11_one.cell (i := 0) rfl
                    have q11_one_1 := o11_one.cell (i := 1) rfl
                    have q11_one_2 := o11_one.cell (i := 2) rfl
                    have l11_one := o11_one.lt
                    have H11_one := hide o11_one
                    clear o11_one
                    have q11_mine_0 := o11_mine.cell (i := 0) rfl
                    have q11_mine_1 := o11_mine.cell (i := 1) rfl
                    have q11_mine_2 := o11_mine.cell (i := 2) rfl
                    have q11_mine_3 := o11_mine.cell (i := 3) rfl
                    have l11_mine := o11_mine.lt
                    have H11_mine := hide o11_mine
                    clear o11_mine
                    have q11_t_0 := o11_t.cell (i := 0) rfl
                    have q11_t_1 := o11_t.cell (i := 1) rfl
                    have q11_t_2 := o11_t.cell (i := 2) rfl
                    have q11_t_3 := o11_t.cell (i := 3) rfl
                    have l11_t := o11_t.lt
                    have H11_t := hide o11_t
                    clear o11_t
                    have q11_x_0 := o11_x.cell (i := 0) rfl
                    have f11_x_0 := o11_x.free 0
                    have q11_x_1 := o11_x.cell (i := 1) rfl
                    have f11_x_1 := o11_x.free 1
                    have q11_x_2 := o11_x.cell (i := 2) rfl
                    have f11_x_2 := o11_x.free 2
                    have q11_x_3 := o11_x.cell (i := 3) rfl
                    have f11_x_3 := o11_x.free 3
                    have l11_x := o11_x.lt
                    have H11_x := hide o11_x
                    clear o11_x
                    have hy11 : w.heap.size ≤ w11.heap.size := hB11.size
                    clear hb11
                    go_wp2_with fail
                    refine (error_any 8 8 _ (hE.below (B := w.heap.size) (by go_grown) hE.pos)).mono ?_
                    rintro e w12 ⟨rfl, hb12⟩
                    have hB12 : Below w.heap.size w w12 := by
                      refine Below.trans ?_ (Below.mono hb12 ?_)
                      · go_grown
                      · first | omega | (simp; done) | (simp; omega)
                    have o12_r : ObjAt w12 (w.heap.size) 47 [.int .i64 e, .int .i64 k, .int .i64 o] := ObjAt.below (H11_r.out) hb12
                    have o12_one : ObjAt w12 (w1.heap.size) 47 [.int .i64 0, .int .i64 v5, .int .i64 0] := ObjAt.below (H11_one.out) hb12
                    have o12_mine : ObjAt w12 (w2.heap.size) 56 [.int .i64 0, .int .i64 3, .int .i64 10, .int .i64 g5] := ObjAt.below (H11_mine.out) hb12
                    have o12_t : ObjAt w12 (w6.heap.size) 56 [.int .i64 e, .int .i64 n, .int .i64 u, .int .i64 g] := ObjAt.below (H11_t.out) hb12
                    have o12_x : ObjAt w12 (w7.heap.size) 56 [.int .i64 e, .int .i64 n, .int .i64 ot, .int .i64 g] := ObjAt.below (H11_x.out) hb12
                    clear q11_r_0 q11_r_1 q11_r_2 H11_r q11_one_0 q11_one_1 q11_one_2 H11_one q11_mine_0 q11_mine_1 q11_mine_2 q11_mine_3 H11_mine q11_t_0 q11_t_1 q11_t_2 q11_t_3 H11_t q11_x_0 f11_x_0 q11_x_1 f11_x_1 q11_x_2 f11_x_2 q11_x_3 f11_x_3 H11_x
                    have q12_r_0 := o12_r.cell (i := 0) rfl
                    have q12_r_1 := o12_r.cell (i := 1) rfl
                    have q12_r_2 := o12_r.cell (i := 2) rfl
                    have l12_r := o12_r.lt
                    have H12_r := hide o12_r
                    clear o12_r
                    have q12_one_0 := o12_one.cell (i := 0) rfl
                    have q12_one_1 := o12_one.cell (i := 1) rfl
                    have q12_one_2 := o12_one.cell (i := 2) rfl
                    have l12_one := o12_one.lt
                    have H12_one := hide o12_one
                    clear o12_one
                    have q12_mine_0 := o12_mine.cell (i := 0) rfl
                    have q12_mine_1 := o12_mine.cell (i := 1) rfl
                    have q12_mine_2 := o12_mine.cell (i := 2) rfl
                    have q12_mine_3 := o12_mine.cell (i := 3) rfl
                    have l12_mine := o12_mine.lt
                    have H12_mine := hide o12_mine
                    clear o12_mine
                    have q12_t_0 := o12_t.cell (i := 0) rfl
                    have q12_t_1 := o12_t.cell (i := 1) rfl
                    have q12_t_2 := o12_t.cell (i := 2) rfl
                    have q12_t_3 := o12_t.cell (i := 3) rfl
                    have l12_t := o12_t.lt
                    have H12_t := hide o12_t
                    clear o12_t
                    have q12_x_0 := o12_x.cell (i := 0) rfl
                    have f12_x_0 := o12_x.free 0
                    have q12_x_1 := o12_x.cell (i := 1) rfl
                    have f12_x_1 := o12_x.free 1
                    have q12_x_2 := o12_x.cell (i := 2) rfl
                    have f12_x_2 := o12_x.free 2
                    have q12_x_3 := o12_x.cell (i := 3) rfl
                    have f12_x_3 := o12_x.free 3
                    have l12_x := o12_x.lt
                    have H12_x := hide o12_x
                    clear o12_x
                    have hy12 : w.heap.size ≤ w12.heap.size := hB12.size
                    clear hb12
                    go_wp2
                    go_ret
                    exact ⟨rfl, by go_grown⟩
  · obtain ⟨c, hc⟩ : ∃ c, tkmE e k o n u = c := ⟨_, rfl⟩
    rw [hc] at hm
    have MK := hide (fun W => ticketMake_bad hc hm W)
    have t1 : (c != 0) = true := bne_iff_ne.2 hm
    clear hc hm
    go_enter Tryd.func13, Tryd.ntmps13
    go_wp2_with fail
    refine (N5.out _).mono ?_
    rintro e w1 ⟨rfl, hb1⟩
    have hB1 : Below w.heap.size w w1 := by
      refine Below.trans ?_ (Below.mono hb1 ?_)
      · go_grown
      · first | omega | (simp; done) | (simp; omega)
    have o1_r : ObjAt w1 (w.heap.size) 47 [.int .i64 e, .int .i64 k, .int .i64 o] := ObjAt.below (objNew (by simp)) hb1
    have q1_r_0 := o1_r.cell (i := 0) rfl
    have q1_r_1 := o1_r.cell (i := 1) rfl
    have q1_r_2 := o1_r.cell (i := 2) rfl
    have l1_r := o1_r.lt
    have H1_r := hide o1_r
    clear o1_r
    have hy1 : w.heap.size ≤ w1.heap.size := hB1.size
    clear hb1
    go_wp2_with fail
    refine (M5.out _).mono ?_
    rintro e w2 ⟨rfl, hb2⟩
    have hB2 : Below w.heap.size w w2 := by
      refine Below.trans ?_ (Below.mono hb2 ?_)
      · go_grown
      · first | omega | (simp; done) | (simp; omega)
    have o2_r : ObjAt w2 (w.heap.size) 47 [.int .i64 e, .int .i64 k, .int .i64 o] := ObjAt.below (ObjAt.alloc (H1_r.out) _) hb2
    have o2_one : ObjAt w2 (w1.heap.size) 47 [.int .i64 0, .int .i64 v5, .int .i64 0] := ObjAt.below (objNew (by simp)) hb2
    clear q1_r_0 q1_r_1 q1_r_2 H1_r
    have q2_r_0 := o2_r.cell (i := 0) rfl
    have q2_r_1 := o2_r.cell (i := 1) rfl
    have q2_r_2 := o2_r.cell (i := 2) rfl
    have l2_r := o2_r.lt
    have H2_r := hide o2_r
    clear o2_r
    have q2_one_0 := o2_one.cell (i := 0) rfl
    have q2_one_1 := o2_one.cell (i := 1) rfl
    have q2_one_2 := o2_one.cell (i := 2) rfl
    have l2_one := o2_one.lt
    have H2_one := hide o2_one
    clear o2_one
    have hy2 : w.heap.size ≤ w2.heap.size := hB2.size
    clear hb2
    go_wp2_with fail
    refine (C5.out _).mono ?_
    rintro e w3 ⟨rfl, hb3⟩
    have hB3 : Below w.heap.size w w3 := by
      refine Below.trans ?_ (Below.mono hb3 ?_)
      · go_grown
      · first | omega | (simp; done) | (simp; omega)
    have o3_r : ObjAt w3 (w.heap.size) 47 [.int .i64 e, .int .i64 k, .int .i64 o] := ObjAt.below (ObjAt.alloc (H2_r.out) _) hb3
    have o3_one : ObjAt w3 (w1.heap.size) 47 [.int .i64 0, .int .i64 v5, .int .i64 0] := ObjAt.below (ObjAt.alloc (H2_one.out) _) hb3
    have o3_mine : ObjAt w3 (w2.heap.size) 56 [.int .i64 0, .int .i64 3, .int .i64 10, .int .i64 g5] := ObjAt.below (objNew (by simp)) hb3
    clear q2_r_0 q2_r_1 q2_r_2 H2_r q2_one_0 q2_one_1 q2_one_2 H2_one
    have q3_r_0 := o3_r.cell (i := 0) rfl
    have q3_r_1 := o3_r.cell (i := 1) rfl
    have q3_r_2 := o3_r.cell (i := 2) rfl
    have l3_r := o3_r.lt
    have H3_r := hide o3_r
    clear o3_r
    have q3_one_0 := o3_one.cell (i := 0) rfl
    have q3_one_1 := o3_one.cell (i := 1) rfl
    have q3_one_2 := o3_one.cell (i := 2) rfl
    have l3_one := o3_one.lt
    have H3_one := hide o3_one
    clear o3_one
    have q3_mine_0 := o3_mine.cell (i := 0) rfl
    have q3_mine_1 := o3_mine.cell (i := 1) rfl
    have q3_mine_2 := o3_mine.cell (i := 2) rfl
    have q3_mine_3 := o3_mine.cell (i := 3) rfl
    have l3_mine := o3_mine.lt
    have H3_mine := hide o3_mine
    clear o3_mine
    have hy3 : w.heap.size ≤ w3.heap.size := hB3.size
    clear hb3
    go_wp2_with fail
    refine (D5.out _).mono ?_
    rintro e w4 ⟨rfl, hb4⟩
    have hB4 : Below w.heap.size w w4 := by
      refine Below.trans ?_ (Below.mono hb4 ?_)
      · go_grown
      · first | omega | (simp; done) | (simp; omega)
    have o4_r : ObjAt w4 (w.heap.size) 47 [.int .i64 e, .int .i64 k, .int .i64 o] := ObjAt.below (H3_r.out) hb4
    have o4_one : ObjAt w4 (w1.heap.size) 47 [.int .i64 0, .int .i64 v5, .int .i64 0] := ObjAt.below (H3_one.out) hb4
    have o4_mine : ObjAt w4 (w2.heap.size) 56 [.int .i64 0, .int .i64 3, .int .i64 10, .int .i64 g5] := ObjAt.below (H3_mine.out) hb4
    clear q3_r_0 q3_r_1 q3_r_2 H3_r q3_one_0 q3_one_1 q3_one_2 H3_one q3_mine_0 q3_mine_1 q3_mine_2 q3_mine_3 H3_mine
    have q4_r_0 := o4_r.cell (i := 0) rfl
    have q4_r_1 := o4_r.cell (i := 1) rfl
    have q4_r_2 := o4_r.cell (i := 2) rfl
    have l4_r := o4_r.lt
    have H4_r := hide o4_r
    clear o4_r
    have q4_one_0 := o4_one.cell (i := 0) rfl
    have q4_one_1 := o4_one.cell (i := 1) rfl
    have q4_one_2 := o4_one.cell (i := 2) rfl
    have l4_one := o4_one.lt
    have H4_one := hide o4_one
    clear o4_one
    have q4_mine_0 := o4_mine.cell (i := 0) rfl
    have q4_mine_1 := o4_mine.cell (i := 1) rfl
    have q4_mine_2 := o4_mine.cell (i := 2) rfl
    have q4_mine_3 := o4_mine.cell (i := 3) rfl
    have l4_mine := o4_mine.lt
    have H4_mine := hide o4_mine
    clear o4_mine
    have hy4 : w.heap.size ≤ w4.heap.size := hB4.size
    clear hb4
    go_wp2_with fail
    refine (error_any 9 9 _ (hE.below (B := w.heap.size) (by go_grown) hE.pos)).mono ?_
    rintro e w5 ⟨rfl, hb5⟩
    have hB5 : Below w.heap.size w w5 := by
      refine Below.trans ?_ (Below.mono hb5 ?_)
      · go_grown
      · first | omega | (simp; done) | (simp; omega)
    have o5_r : ObjAt w5 (w.heap.size) 47 [.int .i64 e, .int .i64 k, .int .i64 o] := ObjAt.below (H4_r.out) hb5
    have o5_one : ObjAt w5 (w1.heap.size) 47 [.int .i64 0, .int .i64 v5, .int .i64 0] := ObjAt.below (H4_one.out) hb5
    have o5_mine : ObjAt w5 (w2.heap.size) 56 [.int .i64 0, .int .i64 3, .int .i64 10, .int .i64 g5] := ObjAt.below (H4_mine.out) hb5
    clear q4_r_0 q4_r_1 q4_r_2 H4_r q4_one_0 q4_one_1 q4_one_2 H4_one q4_mine_0 q4_mine_1 q4_mine_2 q4_mine_3 H4_mine
    have q5_r_0 := o5_r.cell (i := 0) rfl
    have q5_r_1 := o5_r.cell (i := 1) rfl
    have q5_r_2 := o5_r.cell (i := 2) rfl
    have l5_r := o5_r.lt
    have H5_r := hide o5_r
    clear o5_r
    have q5_one_0 := o5_one.cell (i := 0) rfl
    have q5_one_1 := o5_one.cell (i := 1) rfl
    have q5_one_2 := o5_one.cell (i := 2) rfl
    have l5_one := o5_one.lt
    have H5_one := hide o5_one
    clear o5_one
    have q5_mine_0 := o5_mine.cell (i := 0) rfl
    have q5_mine_1 := o5_mine.cell (i := 1) rfl
    have q5_mine_2 := o5_mine.cell (i := 2) rfl
    have q5_mine_3 := o5_mine.cell (i := 3) rfl
    have l5_mine := o5_mine.lt
    have H5_mine := hide o5_mine
    clear o5_mine
    have hy5 : w.heap.size ≤ w5.heap.size := hB5.size
    clear hb5
    go_wp2_with fail
    refine (MK.out _).mono ?_
    rintro e w6 ⟨rfl, hb6⟩
    have hB6 : Below w.heap.size w w6 := by
      refine Below.trans ?_ (Below.mono hb6 ?_)
      · go_grown
      · first | omega | (simp; done) | (simp; omega)
    have o6_r : ObjAt w6 (w.heap.size) 47 [.int .i64 e, .int .i64 k, .int .i64 o] := ObjAt.below (H5_r.out) hb6
    have o6_one : ObjAt w6 (w1.heap.size) 47 [.int .i64 0, .int .i64 v5, .int .i64 0] := ObjAt.below (H5_one.out) hb6
    have o6_mine : ObjAt w6 (w2.heap.size) 56 [.int .i64 0, .int .i64 3, .int .i64 10, .int .i64 g5] := ObjAt.below (H5_mine.out) hb6
    clear q5_r_0 q5_r_1 q5_r_2 H5_r q5_one_0 q5_one_1 q5_one_2 H5_one q5_mine_0 q5_mine_1 q5_mine_2 q5_mine_3 H5_mine
    have q6_r_0 := o6_r.cell (i := 0) rfl
    have q6_r_1 := o6_r.cell (i := 1) rfl
    have q6_r_2 := o6_r.cell (i := 2) rfl
    have l6_r := o6_r.lt
    have H6_r := hide o6_r
    clear o6_r
    have q6_one_0 := o6_one.cell (i := 0) rfl
    have q6_one_1 := o6_one.cell (i := 1) rfl
    have q6_one_2 := o6_one.cell (i := 2) rfl
    have l6_one := o6_one.lt
    have H6_one := hide o6_one
    clear o6_one
    have q6_mine_0 := o6_mine.cell (i := 0) rfl
    have q6_mine_1 := o6_mine.cell (i := 1) rfl
    have q6_mine_2 := o6_mine.cell (i := 2) rfl
    have q6_mine_3 := o6_mine.cell (i := 3) rfl
    have l6_mine := o6_mine.lt
    have H6_mine := hide o6_mine
    clear o6_mine
    have hy6 : w.heap.size ≤ w6.heap.size := hB6.size
    clear hb6
    go_wp2
    go_ret
    exact ⟨rfl, by go_grown⟩
end Go.Proofs.YtelegodagepeeaaDoor
