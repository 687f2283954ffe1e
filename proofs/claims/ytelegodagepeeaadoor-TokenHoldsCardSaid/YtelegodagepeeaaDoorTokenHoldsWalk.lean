/- The walk of TokenHolds. -/
import Derived.Test.YtelegodagepeeaaDoorTokFacts
import Derived.Test.YtelegodagepeeaaDoorRingNew
import Derived.Test.YtelegodagepeeaaDoorRingTurn
import Derived.Test.YtelegodagepeeaaDoorErr
import Derived.Test.YtelegodagepeeaaDoorObj4
namespace Go.Proofs.YtelegodagepeeaaDoor
open Go.RowKit

set_option maxRecDepth 100000 in
set_option maxHeartbeats 16000000 in
theorem walkTokenHolds (w : World) (e k o : Int) (_w1 : (Lit.int .i64 e).wf = true) (_w2 : (Lit.int .i64 k).wf = true) (_w3 : (Lit.int .i64 o).wf = true) (a : Int) (_w4 : (Lit.int .i64 a).wf = true) (tm : Int) (_w5 : (Lit.int .i64 tm).wf = true) (now : Int) (_w6 : (Lit.int .i64 now).wf = true) (li : Int) (_w7 : (Lit.int .i64 li).wf = true) (ot : Int) (_w8 : (Lit.int .i64 ot).wf = true) (n : Int) (_w9 : (Lit.int .i64 n).wf = true) (hE : ErrT w) :
    Calls Tryd.prog 14 #[.agg #[.int .i64 e, .int .i64 k, .int .i64 o], .int .i64 a, .int .i64 tm, .int .i64 now, .int .i64 li, .int .i64 ot, .int .i64 n] w fun r w' => r = .returned (.bool true) ∧ Below w.heap.size w w' := by
  clear _w1 _w2 _w3 _w4 _w5 _w6 _w7 _w8 _w9
  have N5 := hide (fun W => ringNew_ok (seed := 5) (by decide) W)
  have hr5 := ringNew_key (seed := 5) (by decide)
  obtain ⟨v5, hv5⟩ : ∃ v, v = tagOf 5 [0] := ⟨_, rfl⟩
  rw [← hv5] at N5 hr5
  have M5 := hide (fun W => tokenMake_ok hr5 (show inB 3 = true by decide) (show tmB 10 = true by decide) W)
  have d0 : tokE 0 v5 0 0 3 10 (tagOf v5 [1, 3, 10]) 3 12 5 = 0 := by rw [tokE_at hr5 (by decide) (ringOfN_self _ _ _) (by decide) (by decide) (by decide) (by decide) (by decide)]; decide
  have d1 : tokE 0 v5 0 0 3 10 (tagOf v5 [1, 3, 10]) 4 12 5 = 7 := by rw [tokE_at hr5 (by decide) (ringOfN_self _ _ _) (by decide) (by decide) (by decide) (by decide) (by decide)]; decide
  obtain ⟨g5, hg5⟩ : ∃ g, g = tagOf v5 [1, 3, 10] := ⟨_, rfl⟩
  rw [← hg5] at M5 d0 d1
  have C5 : Hid (∀ W, Calls Tryd.prog 40 #[.agg #[.int .i64 0, .int .i64 v5, .int .i64 0], .agg #[.int .i64 0, .int .i64 3, .int .i64 10, .int .i64 g5], .int .i64 3, .int .i64 12, .int .i64 5] W fun r w' => r = .returned (.nilIface) ∧ Below W.heap.size W w') := tokenCheck_eq d0
  have D5 : Hid (∀ W, Calls Tryd.prog 40 #[.agg #[.int .i64 0, .int .i64 v5, .int .i64 0], .agg #[.int .i64 0, .int .i64 3, .int .i64 10, .int .i64 g5], .int .i64 4, .int .i64 12, .int .i64 5] W fun r w' => r = .returned (.iface 94 (.int .i64 7)) ∧ Below W.heap.size W w') := tokenCheck_eq d1
  clear hr5 hv5 hg5 d0 d1
  rcases tomE_cases e k o a tm with ⟨hm, hr, ha, ht⟩ | hm
  · have MK := hide (fun W => tokenMake_ok hr ha ht W)
    obtain ⟨he, hk, _, _⟩ := ringE_ok hr
    have hte := epB_true.2 he
    obtain ⟨t0, t1⟩ := tmB_true.1 ht
    have gin := tagOf_in k [1, a, tm]
    have q0 : ∀ ad, inB ad = true → tmB now = true → tmB li = true → tokE e k o e a tm (tagOf k [1, a, tm]) ad now li = if a ≠ ad then 7 else if now < tm ∨ li < now - tm then 9 else 0 := fun ad h1 h2 h3 => tokE_at hr hte (ringOfN_self _ _ _) ha ht h1 h2 h3
    have q4 : inB ot = false → tokE e k o e a tm (tagOf k [1, a, tm]) ot now li = 1 := fun h => tokE_range hr (by simp [h])
    have q1 : e < 100 → tmB now = true → tmB li = true → tokE (e + 1) (tagOf k [e + 1]) k e a tm (tagOf k [1, a, tm]) a now li = if now < tm ∨ li < now - tm then 9 else 0 := fun h h1 h2 => by rw [tokE_at (ringTurn_right hr h) hte (ringOfN_elder _ _ _) ha ht ha h1 h2]; simp
    have q2 : e + 1 < 100 → tmB now = true → tmB li = true → tokE (e + 2) (tagOf (tagOf k [e + 1]) [e + 2]) (tagOf k [e + 1]) e a tm (tagOf k [1, a, tm]) a now li = 9 := fun h h1 h2 => by
      have hx := ringTurn_right (ringTurn_right hr (by omega)) h
      rw [show e + 1 + 1 = e + 2 by omega] at hx
      exact tokE_late hx hte (ringOfN_gone _ _ _ 2 (by omega)) ha ht rfl ha h1 h2
    have q3 : tmB now = true → tmB li = true → inB n = true → n ≠ tagOf k [1, a, tm] → tokE e k o e a tm n a now li = 8 := fun h1 h2 h3 h4 => tokE_seal hr hte (ringOfN_self _ _ _) ha ht h3 h4 ha h1 h2
    have T1 : e < 100 → _ := fun (h : e < 100) => ringTurn_ok hr h
    have T2 : e + 1 < 100 → _ := fun (h : e + 1 < 100) => ringTurn_ok (ringTurn_right hr (by omega)) h
    have T3 : e = 99 → _ := fun (h : e = 99) => ringTurn_full (k := tagOf k [100]) (o := k) (by have := ringTurn_right hr (by omega : e < 100); rw [h] at this; exact this)
    have T4 : e = 100 → _ := fun (h : e = 100) => ringTurn_full (k := k) (o := o) (by rw [← h]; exact hr)
    obtain ⟨g, hg⟩ : ∃ g, g = tagOf k [1, a, tm] := ⟨_, rfl⟩
    rw [← hg] at MK q0 q1 q2 q3 q4
    obtain ⟨e0, e1⟩ := he
    obtain ⟨a0, a1⟩ := inB_true.1 ha
    clear hm hr ht hk hte gin hg
    have HQ0 := hide q0; have HQ1 := hide q1; have HQ2 := hide q2; have HQ3 := hide q3; have HQ4 := hide q4; have HT1 := hide T1; have HT2 := hide T2; have HT3 := hide T3; have HT4 := hide T4; have HA := hide ha
    clear q0 q1 q2 q3 q4 T1 T2 T3 T4 ha
    go_enter Tryd.func14, Tryd.ntmps14
    go_wp2_with fail
    refine (N5.out _).mono ?_
    rintro e w1 ⟨rfl, hb1⟩
    have hB1 : Below w.heap.size w w1 := by
      refine Below.trans ?_ (Below.mono hb1 ?_)
      · go_grown
      · first | omega | (simp; done) | (simp; omega)
    have o1_r : ObjAt w1 (w.heap.size) 47 [.int .i64 e, .int .i64 k, .int .i64 o] := ObjAt.below (objNew (by simp)) hb1
    have q1_r_0 := o1_r.cell (i := 0) rfl
    have q1_r_1 := o1_r.cell (i := 1) rfl
    have q1_r_2 := o1_r.cell (i := 2) rfl
    have l1_r := o1_r.lt
    have H1_r := hide o1_r
    clear o1_r
    have hy1 : w.heap.size ≤ w1.heap.size := hB1.size
    clear hb1
    go_wp2_with fail
    refine (M5.out _).mono ?_
    rintro e w2 ⟨rfl, hb2⟩
    have hB2 : Below w.heap.size w w2 := by
      refine Below.trans ?_ (Below.mono hb2 ?_)
      · go_grown
      · first | omega | (simp; done) | (simp; omega)
    have o2_r : ObjAt w2 (w.heap.size) 47 [.int .i64 e, .int .i64 k, .int .i64 o] := ObjAt.below (ObjAt.alloc (H1_r.out) _) hb2
    have o2_one : ObjAt w2 (w1.heap.size) 47 [.int .i64 0, .int .i64 v5, .int .i64 0] := ObjAt.below (objNew (by simp)) hb2
    clear q1_r_0 q1_r_1 q1_r_2 H1_r
    have q2_r_0 := o2_r.cell (i := 0) rfl
    have q2_r_1 := o2_r.cell (i := 1) rfl
    have q2_r_2 := o2_r.cell (i := 2) rfl
    have l2_r := o2_r.lt
    have H2_r := hide o2_r
    clear o2_r
    have q2_one_0 := o2_one.cell (i := 0) rfl
    have q2_one_1 := o2_one.cell (i := 1) rfl
    have q2_one_2 := o2_one.cell (i := 2) rfl
    have l2_one := o2_one.lt
    have H2_one := hide o2_one
    clear o2_one
    have hy2 : w.heap.size ≤ w2.heap.size := hB2.size
    clear hb2
    go_wp2_with fail
    refine (C5.out _).mono ?_
    rintro e w3 ⟨rfl, hb3⟩
    have hB3 : Below w.heap.size w w3 := by
      refine Below.trans ?_ (Below.mono hb3 ?_)
      · go_grown
      · first | omega | (simp; done) | (simp; omega)
    have o3_r : ObjAt w3 (w.heap.size) 47 [.int .i64 e, .int .i64 k, .int .i64 o] := ObjAt.below (ObjAt.alloc (H2_r.out) _) hb3
    have o3_one : ObjAt w3 (w1.heap.size) 47 [.int .i64 0, .int .i64 v5, .int .i64 0] := ObjAt.below (ObjAt.alloc (H2_one.out) _) hb3
    have o3_mine : ObjAt w3 (w2.heap.size) 73 [.int .i64 0, .int .i64 3, .int .i64 10, .int .i64 g5] := ObjAt.below (objNew (by simp)) hb3
    clear q2_r_0 q2_r_1 q2_r_2 H2_r q2_one_0 q2_one_1 q2_one_2 H2_one
    have q3_r_0 := o3_r.cell (i := 0) rfl
    have q3_r_1 := o3_r.cell (i := 1) rfl
    have q3_r_2 := o3_r.cell (i := 2) rfl
    have l3_r := o3_r.lt
    have H3_r := hide o3_r
    clear o3_r
    have q3_one_0 := o3_one.cell (i := 0) rfl
    have q3_one_1 := o3_one.cell (i := 1) rfl
    have q3_one_2 := o3_one.cell (i := 2) rfl
    have l3_one := o3_one.lt
    have H3_one := hide o3_one
    clear o3_one
    have q3_mine_0 := o3_mine.cell (i := 0) rfl
    have q3_mine_1 := o3_mine.cell (i := 1) rfl
    have q3_mine_2 := o3_mine.cell (i := 2) rfl
    have q3_mine_3 := o3_mine.cell (i := 3) rfl
    have l3_mine := o3_mine.lt
    have H3_mine := hide o3_mine
    clear o3_mine
    have hy3 : w.heap.size ≤ w3.heap.size := hB3.size
    clear hb3
    go_wp2_with fail
    refine (D5.out _).mono ?_
    rintro e w4 ⟨rfl, hb4⟩
    have hB4 : Below w.heap.size w w4 := by
      refine Below.trans ?_ (Below.mono hb4 ?_)
      · go_grown
      · first | omega | (simp; done) | (simp; omega)
    have o4_r : ObjAt w4 (w.heap.size) 47 [.int .i64 e, .int .i64 k, .int .i64 o] := ObjAt.below (H3_r.out) hb4
    have o4_one : ObjAt w4 (w1.heap.size) 47 [.int .i64 0, .int .i64 v5, .int .i64 0] := ObjAt.below (H3_one.out) hb4
    have o4_mine : ObjAt w4 (w2.heap.size) 73 [.int .i64 0, .int .i64 3, .int .i64 10, .int .i64 g5] := ObjAt.below (H3_mine.out) hb4
    clear q3_r_0 q3_r_1 q3_r_2 H3_r q3_one_0 q3_one_1 q3_one_2 H3_one q3_mine_0 q3_mine_1 q3_mine_2 q3_mine_3 H3_mine
    have q4_r_0 := o4_r.cell (i := 0) rfl
    have q4_r_1 := o4_r.cell (i := 1) rfl
    have q4_r_2 := o4_r.cell (i := 2) rfl
    have l4_r := o4_r.lt
    have H4_r := hide o4_r
    clear o4_r
    have q4_one_0 := o4_one.cell (i := 0) rfl
    have q4_one_1 := o4_one.cell (i := 1) rfl
    have q4_one_2 := o4_one.cell (i := 2) rfl
    have l4_one := o4_one.lt
    have H4_one := hide o4_one
    clear o4_one
    have q4_mine_0 := o4_mine.cell (i := 0) rfl
    have q4_mine_1 := o4_mine.cell (i := 1) rfl
    have q4_mine_2 := o4_mine.cell (i := 2) rfl
    have q4_mine_3 := o4_mine.cell (i := 3) rfl
    have l4_mine := o4_mine.lt
    have H4_mine := hide o4_mine
    clear o4_mine
    have hy4 : w.heap.size ≤ w4.heap.size := hB4.size
    clear hb4
    go_wp2_with fail
    refine (error_any 7 7 _ (hE.below (B := w.heap.size) (by go_grown) hE.pos)).mono ?_
    rintro e w5 ⟨rfl, hb5⟩
    have hB5 : Below w.heap.size w w5 := by
      refine Below.trans ?_ (Below.mono hb5 ?_)
      · go_grown
      · first | omega | (simp; done) | (simp; omega)
    have o5_r : ObjAt w5 (w.heap.size) 47 [.int .i64 e, .int .i64 k, .int .i64 o] := ObjAt.below (H4_r.out) hb5
    have o5_one : ObjAt w5 (w1.heap.size) 47 [.int .i64 0, .int .i64 v5, .int .i64 0] := ObjAt.below (H4_one.out) hb5
    have o5_mine : ObjAt w5 (w2.heap.size) 73 [.int .i64 0, .int .i64 3, .int .i64 10, .int .i64 g5] := ObjAt.below (H4_mine.out) hb5
    clear q4_r_0 q4_r_1 q4_r_2 H4_r q4_one_0 q4_one_1 q4_one_2 H4_one q4_mine_0 q4_mine_1 q4_mine_2 q4_mine_3 H4_mine
    have q5_r_0 := o5_r.cell (i := 0) rfl
    have q5_r_1 := o5_r.cell (i := 1) rfl
    have q5_r_2 := o5_r.cell (i := 2) rfl
    have l5_r := o5_r.lt
    have H5_r := hide o5_r
    clear o5_r
    have q5_one_0 := o5_one.cell (i := 0) rfl
    have q5_one_1 := o5_one.cell (i := 1) rfl
    have q5_one_2 := o5_one.cell (i := 2) rfl
    have l5_one := o5_one.lt
    have H5_one := hide o5_one
    clear o5_one
    have q5_mine_0 := o5_mine.cell (i := 0) rfl
    have q5_mine_1 := o5_mine.cell (i := 1) rfl
    have q5_mine_2 := o5_mine.cell (i := 2) rfl
    have q5_mine_3 := o5_mine.cell (i := 3) rfl
    have l5_mine := o5_mine.lt
    have H5_mine := hide o5_mine
    clear o5_mine
    have hy5 : w.heap.size ≤ w5.heap.size := hB5.size
    clear hb5
    go_wp2_with fail
    refine (MK.out _).mono ?_
    rintro e w6 ⟨rfl, hb6⟩
    have hB6 : Below w.heap.size w w6 := by
      refine Below.trans ?_ (Below.mono hb6 ?_)
      · go_grown
      · first | omega | (simp; done) | (simp; omega)
    have o6_r : ObjAt w6 (w.heap.size) 47 [.int .i64 e, .int .i64 k, .int .i64 o] := ObjAt.below (H5_r.out) hb6
    have o6_one : ObjAt w6 (w1.heap.size) 47 [.int .i64 0, .int .i64 v5, .int .i64 0] := ObjAt.below (H5_one.out) hb6
    have o6_mine : ObjAt w6 (w2.heap.size) 73 [.int .i64 0, .int .i64 3, .int .i64 10, .int .i64 g5] := ObjAt.below (H5_mine.out) hb6
    clear q5_r_0 q5_r_1 q5_r_2 H5_r q5_one_0 q5_one_1 q5_one_2 H5_one q5_mine_0 q5_mine_1 q5_mine_2 q5_mine_3 H5_mine
    have q6_r_0 := o6_r.cell (i := 0) rfl
    have q6_r_1 := o6_r.cell (i := 1) rfl
    have q6_r_2 := o6_r.cell (i := 2) rfl
    have l6_r := o6_r.lt
    have H6_r := hide o6_r
    clear o6_r
    have q6_one_0 := o6_one.cell (i := 0) rfl
    have q6_one_1 := o6_one.cell (i := 1) rfl
    have q6_one_2 := o6_one.cell (i := 2) rfl
    have l6_one := o6_one.lt
    have H6_one := hide o6_one
    clear o6_one
    have q6_mine_0 := o6_mine.cell (i := 0) rfl
    have q6_mine_1 := o6_mine.cell (i := 1) rfl
    have q6_mine_2 := o6_mine.cell (i := 2) rfl
    have q6_mine_3 := o6_mine.cell (i := 3) rfl
    have l6_mine := o6_mine.lt
    have H6_mine := hide o6_mine
    clear o6_mine
    have hy6 : w.heap.size ≤ w6.heap.size := hB6.size
    clear hb6
    by_cases x1 : now < 0
    ·
      go_wp2
      go_ret
      exact ⟨rfl, by go_grown⟩
    ·
      have x1' : 0 ≤ now := by omega
      clear x1
      by_cases x2 : 100000 < now
      ·
        go_wp2
        go_ret
        exact ⟨rfl, by go_grown⟩
      ·
        have x2' : now ≤ 100000 := by omega
        clear x2
        by_cases x3 : li < 0
        ·
          go_wp2
          go_ret
          exact ⟨rfl, by go_grown⟩
        ·
          have x3' : 0 ≤ li := by omega
          clear x3
          by_cases x4 : 100000 < li
          ·
            go_wp2
            go_ret
            exact ⟨rfl, by go_grown⟩
          ·
            have x4' : li ≤ 100000 := by omega
            clear x4
            have hn : Hid (tmB now = true) := hide (tmB_true.2 ⟨x1', x2'⟩)
            have hl : Hid (tmB li = true) := hide (tmB_true.2 ⟨x3', x4'⟩)
            by_cases y1 : now < tm
            ·
              have CA : Hid (∀ W, Calls Tryd.prog 40 #[.agg #[.int .i64 e, .int .i64 k, .int .i64 o], .agg #[.int .i64 e, .int .i64 a, .int .i64 tm, .int .i64 g], .int .i64 a, .int .i64 now, .int .i64 li] W fun r w' => r = .returned (.iface 94 (.int .i64 9)) ∧ Below W.heap.size W w') := tokenCheck_eq (c := 9) (by rw [HQ0.out a HA.out hn.out hl.out, if_neg (by simp), if_pos (.inl y1)])
              go_wp2_with fail
              refine (CA.out _).mono ?_
              rintro e w7 ⟨rfl, hb7⟩
              have hB7 : Below w.heap.size w w7 := by
                refine Below.trans ?_ (Below.mono hb7 ?_)
                · go_grown
                · first | omega | (simp; done) | (simp; omega)
              have o7_r : ObjAt w7 (w.heap.size) 47 [.int .i64 e, .int .i64 k, .int .i64 o] := ObjAt.below (ObjAt.alloc (H6_r.out) _) hb7
              have o7_one : ObjAt w7 (w1.heap.size) 47 [.int .i64 0, .int .i64 v5, .int .i64 0] := ObjAt.below (ObjAt.alloc (H6_one.out) _) hb7
              have o7_mine : ObjAt w7 (w2.heap.size) 73 [.int .i64 0, .int .i64 3, .int .i64 10, .int .i64 g5] := ObjAt.below (ObjAt.alloc (H6_mine.out) _) hb7
              have o7_t : ObjAt w7 (w6.heap.size) 73 [.int .i64 e, .int .i64 a, .int .i64 tm, .int .i64 g] := ObjAt.below (objNew (by simp)) hb7
              clear q6_r_0 q6_r_1 q6_r_2 H6_r q6_one_0 q6_one_1 q6_one_2 H6_one q6_mine_0 q6_mine_1 q6_mine_2 q6_mine_3 H6_mine
              have q7_r_0 := o7_r.cell (i := 0) rfl
              have q7_r_1 := o7_r.cell (i := 1) rfl
              have q7_r_2 := o7_r.cell (i := 2) rfl
              have l7_r := o7_r.lt
              have H7_r := hide o7_r
              clear o7_r
              have q7_one_0 := o7_one.cell (i := 0) rfl
              have q7_one_1 := o7_one.cell (i := 1) rfl
              have q7_one_2 := o7_one.cell (i := 2) rfl
              have l7_one := o7_one.lt
              have H7_one := hide o7_one
              clear o7_one
              have q7_mine_0 := o7_mine.cell (i := 0) rfl
              have q7_mine_1 := o7_mine.cell (i := 1) rfl
              have q7_mine_2 := o7_mine.cell (i := 2) rfl
              have q7_mine_3 := o7_mine.cell (i := 3) rfl
              have l7_mine := o7_mine.lt
              have H7_mine := hide o7_mine
              clear o7_mine
              have q7_t_0 := o7_t.cell (i := 0) rfl
              have f7_t_0 := o7_t.free 0
              have q7_t_1 := o7_t.cell (i := 1) rfl
              have f7_t_1 := o7_t.free 1
              have q7_t_2 := o7_t.cell (i := 2) rfl
              have f7_t_2 := o7_t.free 2
              have q7_t_3 := o7_t.cell (i := 3) rfl
              have f7_t_3 := o7_t.free 3
              have l7_t := o7_t.lt
              have H7_t := hide o7_t
              clear o7_t
              have hy7 : w.heap.size ≤ w7.heap.size := hB7.size
              clear hb7
              go_wp2_with fail
              refine (error_any 9 9 _ (hE.below (B := w.heap.size) (by go_grown) hE.pos)).mono ?_
              rintro e w8 ⟨rfl, hb8⟩
              have hB8 : Below w.heap.size w w8 := by
                refine Below.trans ?_ (Below.mono hb8 ?_)
                · go_grown
                · first | omega | (simp; done) | (simp; omega)
              have o8_r : ObjAt w8 (w.heap.size) 47 [.int .i64 e, .int .i64 k, .int .i64 o] := ObjAt.below (H7_r.out) hb8
              have o8_one : ObjAt w8 (w1.heap.size) 47 [.int .i64 0, .int .i64 v5, .int .i64 0] := ObjAt.below (H7_one.out) hb8
              have o8_mine : ObjAt w8 (w2.heap.size) 73 [.int .i64 0, .int .i64 3, .int .i64 10, .int .i64 g5] := ObjAt.below (H7_mine.out) hb8
              have o8_t : ObjAt w8 (w6.heap.size) 73 [.int .i64 e, .int .i64 a, .int .i64 tm, .int .i64 g] := ObjAt.below (H7_t.out) hb8
              clear q7_r_0 q7_r_1 q7_r_2 H7_r q7_one_0 q7_one_1 q7_one_2 H7_one q7_mine_0 q7_mine_1 q7_mine_2 q7_mine_3 H7_mine q7_t_0 f7_t_0 q7_t_1 f7_t_1 q7_t_2 f7_t_2 q7_t_3 f7_t_3 H7_t
              have q8_r_0 := o8_r.cell (i := 0) rfl
              have q8_r_1 := o8_r.cell (i := 1) rfl
              have q8_r_2 := o8_r.cell (i := 2) rfl
              have l8_r := o8_r.lt
              have H8_r := hide o8_r
              clear o8_r
              have q8_one_0 := o8_one.cell (i := 0) rfl
              have q8_one_1 := o8_one.cell (i := 1) rfl
              have q8_one_2 := o8_one.cell (i := 2) rfl
              have l8_one := o8_one.lt
              have H8_one := hide o8_one
              clear o8_one
              have q8_mine_0 := o8_mine.cell (i := 0) rfl
              have q8_mine_1 := o8_mine.cell (i := 1) rfl
              have q8_mine_2 := o8_mine.cell (i := 2) rfl
              have q8_mine_3 := o8_mine.cell (i := 3) rfl
              have l8_mine := o8_mine.lt
              have H8_mine := hide o8_mine
              clear o8_mine
              have q8_t_0 := o8_t.cell (i := 0) rfl
              have f8_t_0 := o8_t.free 0
              have q8_t_1 := o8_t.cell (i := 1) rfl
              have f8_t_1 := o8_t.free 1
              have q8_t_2 := o8_t.cell (i := 2) rfl
              have f8_t_2 := o8_t.free 2
              have q8_t_3 := o8_t.cell (i := 3) rfl
              have f8_t_3 := o8_t.free 3
              have l8_t := o8_t.lt
              have H8_t := hide o8_t
              clear o8_t
              have hy8 : w.heap.size ≤ w8.heap.size := hB8.size
              clear hb8
              go_wp2
              go_ret
              exact ⟨rfl, by go_grown⟩
            ·
              have y1' : tm ≤ now := by omega
              clear y1
              by_cases y2 : tm + li < now
              ·
                have CA : Hid (∀ W, Calls Tryd.prog 40 #[.agg #[.int .i64 e, .int .i64 k, .int .i64 o], .agg #[.int .i64 e, .int .i64 a, .int .i64 tm, .int .i64 g], .int .i64 a, .int .i64 now, .int .i64 li] W fun r w' => r = .returned (.iface 94 (.int .i64 9)) ∧ Below W.heap.size W w') := tokenCheck_eq (c := 9) (by rw [HQ0.out a HA.out hn.out hl.out, if_neg (by simp), if_pos (.inr (by omega))])
                go_wp2_with fail
                refine (CA.out _).mono ?_
                rintro e w7 ⟨rfl, hb7⟩
                have hB7 : Below w.heap.size w w7 := by
                  refine Below.trans ?_ (Below.mono hb7 ?_)
                  · go_grown
                  · first | omega | (simp; done) | (simp; omega)
                have o7_r : ObjAt w7 (w.heap.size) 47 [.int .i64 e, .int .i64 k, .int .i64 o] := ObjAt.below (ObjAt.alloc (H6_r.out) _) hb7
                have o7_one : ObjAt w7 (w1.heap.size) 47 [.int .i64 0, .int .i64 v5, .int .i64 0] := ObjAt.below (ObjAt.alloc (H6_one.out) _) hb7
                have o7_mine : ObjAt w7 (w2.heap.size) 73 [.int .i64 0, .int .i64 3, .int .i64 10, .int .i64 g5] := ObjAt.below (ObjAt.alloc (H6_mine.out) _) hb7
                have o7_t : ObjAt w7 (w6.heap.size) 73 [.int .i64 e, .int .i64 a, .int .i64 tm, .int .i64 g] := ObjAt.below (objNew (by simp)) hb7
                clear q6_r_0 q6_r_1 q6_r_2 H6_r q6_one_0 q6_one_1 q6_one_2 H6_one q6_mine_0 q6_mine_1 q6_mine_2 q6_mine_3 H6_mine
                have q7_r_0 := o7_r.cell (i := 0) rfl
                have q7_r_1 := o7_r.cell (i := 1) rfl
                have q7_r_2 := o7_r.cell (i := 2) rfl
                have l7_r := o7_r.lt
                have H7_r := hide o7_r
                clear o7_r
                have q7_one_0 := o7_one.cell (i := 0) rfl
                have q7_one_1 := o7_one.cell (i := 1) rfl
                have q7_one_2 := o7_one.cell (i := 2) rfl
                have l7_one := o7_one.lt
                have H7_one := hide o7_one
                clear o7_one
                have q7_mine_0 := o7_mine.cell (i := 0) rfl
                have q7_mine_1 := o7_mine.cell (i := 1) rfl
                have q7_mine_2 := o7_mine.cell (i := 2) rfl
                have q7_mine_3 := o7_mine.cell (i := 3) rfl
                have l7_mine := o7_mine.lt
                have H7_mine := hide o7_mine
                clear o7_mine
                have q7_t_0 := o7_t.cell (i := 0) rfl
                have f7_t_0 := o7_t.free 0
                have q7_t_1 := o7_t.cell (i := 1) rfl
                have f7_t_1 := o7_t.free 1
                have q7_t_2 := o7_t.cell (i := 2) rfl
                have f7_t_2 := o7_t.free 2
                have q7_t_3 := o7_t.cell (i := 3) rfl
                have f7_t_3 := o7_t.free 3
                have l7_t := o7_t.lt
                have H7_t := hide o7_t
                clear o7_t
                have hy7 : w.heap.size ≤ w7.heap.size := hB7.size
                clear hb7
                go_wp2_with fail
                refine (error_any 9 9 _ (hE.below (B := w.heap.size) (by go_grown) hE.pos)).mono ?_
                rintro e w8 ⟨rfl, hb8⟩
                have hB8 : Below w.heap.size w w8 := by
                  refine Below.trans ?_ (Below.mono hb8 ?_)
                  · go_grown
                  · first | omega | (simp; done) | (simp; omega)
                have o8_r : ObjAt w8 (w.heap.size) 47 [.int .i64 e, .int .i64 k, .int .i64 o] := ObjAt.below (H7_r.out) hb8
                have o8_one : ObjAt w8 (w1.heap.size) 47 [.int .i64 0, .int .i64 v5, .int .i64 0] := ObjAt.below (H7_one.out) hb8
                have o8_mine : ObjAt w8 (w2.heap.size) 73 [.int .i64 0, .int .i64 3, .int .i64 10, .int .i64 g5] := ObjAt.below (H7_mine.out) hb8
                have o8_t : ObjAt w8 (w6.heap.size) 73 [.int .i64 e, .int .i64 a, .int .i64 tm, .int .i64 g] := ObjAt.below (H7_t.out) hb8
                clear q7_r_0 q7_r_1 q7_r_2 H7_r q7_one_0 q7_one_1 q7_one_2 H7_one q7_mine_0 q7_mine_1 q7_mine_2 q7_mine_3 H7_mine q7_t_0 f7_t_0 q7_t_1 f7_t_1 q7_t_2 f7_t_2 q7_t_3 f7_t_3 H7_t
                have q8_r_0 := o8_r.cell (i := 0) rfl
                have q8_r_1 := o8_r.cell (i := 1) rfl
                have q8_r_2 := o8_r.cell (i := 2) rfl
                have l8_r := o8_r.lt
                have H8_r := hide o8_r
                clear o8_r
                have q8_one_0 := o8_one.cell (i := 0) rfl
                have q8_one_1 := o8_one.cell (i := 1) rfl
                have q8_one_2 := o8_one.cell (i := 2) rfl
                have l8_one := o8_one.lt
                have H8_one := hide o8_one
                clear o8_one
                have q8_mine_0 := o8_mine.cell (i := 0) rfl
                have q8_mine_1 := o8_mine.cell (i := 1) rfl
                have q8_mine_2 := o8_mine.cell (i := 2) rfl
                have q8_mine_3 := o8_mine.cell (i := 3) rfl
                have l8_mine := o8_mine.lt
                have H8_mine := hide o8_mine
                clear o8_mine
                have q8_t_0 := o8_t.cell (i := 0) rfl
                have f8_t_0 := o8_t.free 0
                have q8_t_1 := o8_t.cell (i := 1) rfl
                have f8_t_1 := o8_t.free 1
                have q8_t_2 := o8_t.cell (i := 2) rfl
                have f8_t_2 := o8_t.free 2
                have q8_t_3 := o8_t.cell (i := 3) rfl
                have f8_t_3 := o8_t.free 3
                have l8_t := o8_t.lt
                have H8_t := hide o8_t
                clear o8_t
                have hy8 : w.heap.size ≤ w8.heap.size := hB8.size
                clear hb8
                go_wp2
                go_ret
                exact ⟨rfl, by go_grown⟩
              ·
                have y2' : now ≤ tm + li := by omega
                clear y2
                have CA : Hid (∀ W, Calls Tryd.prog 40 #[.agg #[.int .i64 e, .int .i64 k, .int .i64 o], .agg #[.int .i64 e, .int .i64 a, .int .i64 tm, .int .i64 g], .int .i64 a, .int .i64 now, .int .i64 li] W fun r w' => r = .returned (.nilIface) ∧ Below W.heap.size W w') := tokenCheck_eq (c := 0) (by rw [HQ0.out a HA.out hn.out hl.out, if_neg (by simp), if_neg (by omega)])
                obtain ⟨oc, hoc, hoe⟩ : ∃ oc, tokE e k o e a tm g ot now li = oc ∧ (ot ≠ a → oc ≠ 0) := by
                  refine ⟨_, rfl, fun h => ?_⟩
                  cases hot : inB ot
                  · rw [HQ4.out hot]; decide
                  · rw [HQ0.out ot hot hn.out hl.out, if_pos (Ne.symm h)]; decide
                have CO := hide (fun W => tokenCheck_eq hoc W)
                clear hoc
                go_wp2_with fail
                refine (CA.out _).mono ?_
                rintro e w7 ⟨rfl, hb7⟩
                have hB7 : Below w.heap.size w w7 := by
                  refine Below.trans ?_ (Below.mono hb7 ?_)
                  · go_grown
                  · first | omega | (simp; done) | (simp; omega)
                have o7_r : ObjAt w7 (w.heap.size) 47 [.int .i64 e, .int .i64 k, .int .i64 o] := ObjAt.below (ObjAt.alloc (H6_r.out) _) hb7
                have o7_one : ObjAt w7 (w1.heap.size) 47 [.int .i64 0, .int .i64 v5, .int .i64 0] := ObjAt.below (ObjAt.alloc (H6_one.out) _) hb7
                have o7_mine : ObjAt w7 (w2.heap.size) 73 [.int .i64 0, .int .i64 3, .int .i64 10, .int .i64 g5] := ObjAt.below (ObjAt.alloc (H6_mine.out) _) hb7
                have o7_t : ObjAt w7 (w6.heap.size) 73 [.int .i64 e, .int .i64 a, .int .i64 tm, .int .i64 g] := ObjAt.below (objNew (by simp)) hb7
                clear q6_r_0 q6_r_1 q6_r_2 H6_r q6_one_0 q6_one_1 q6_one_2 H6_one q6_mine_0 q6_mine_1 q6_mine_2 q6_mine_3 H6_mine
                have q7_r_0 := o7_r.cell (i := 0) rfl
                have q7_r_1 := o7_r.cell (i := 1) rfl
                have q7_r_2 := o7_r.cell (i := 2) rfl
                have l7_r := o7_r.lt
                have H7_r := hide o7_r
                clear o7_r
                have q7_one_0 := o7_one.cell (i := 0) rfl
                have q7_one_1 := o7_one.cell (i := 1) rfl
                have q7_one_2 := o7_one.cell (i := 2) rfl
                have l7_one := o7_one.lt
                have H7_one := hide o7_one
                clear o7_one
                have q7_mine_0 := o7_mine.cell (i := 0) rfl
                have q7_mine_1 := o7_mine.cell (i := 1) rfl
                have q7_mine_2 := o7_mine.cell (i := 2) rfl
                have q7_mine_3 := o7_mine.cell (i := 3) rfl
                have l7_mine := o7_mine.lt
                have H7_mine := hide o7_mine
                clear o7_mine
                have q7_t_0 := o7_t.cell (i := 0) rfl
                have f7_t_0 := o7_t.free 0
                have q7_t_1 := o7_t.cell (i := 1) rfl
                have f7_t_1 := o7_t.free 1
                have q7_t_2 := o7_t.cell (i := 2) rfl
                have f7_t_2 := o7_t.free 2
                have q7_t_3 := o7_t.cell (i := 3) rfl
                have f7_t_3 := o7_t.free 3
                have l7_t := o7_t.lt
                have H7_t := hide o7_t
                clear o7_t
                have hy7 : w.heap.size ≤ w7.heap.size := hB7.size
                clear hb7
                go_wp2_with fail
                refine (CO.out _).mono ?_
                rintro e w8 ⟨rfl, hb8⟩
                have hB8 : Below w.heap.size w w8 := by
                  refine Below.trans ?_ (Below.mono hb8 ?_)
                  · go_grown
                  · first | omega | (simp; done) | (simp; omega)
                have o8_r : ObjAt w8 (w.heap.size) 47 [.int .i64 e, .int .i64 k, .int .i64 o] := ObjAt.below (H7_r.out) hb8
                have o8_one : ObjAt w8 (w1.heap.size) 47 [.int .i64 0, .int .i64 v5, .int .i64 0] := ObjAt.below (H7_one.out) hb8
                have o8_mine : ObjAt w8 (w2.heap.size) 73 [.int .i64 0, .int .i64 3, .int .i64 10, .int .i64 g5] := ObjAt.below (H7_mine.out) hb8
                have o8_t : ObjAt w8 (w6.heap.size) 73 [.int .i64 e, .int .i64 a, .int .i64 tm, .int .i64 g] := ObjAt.below (H7_t.out) hb8
                clear q7_r_0 q7_r_1 q7_r_2 H7_r q7_one_0 q7_one_1 q7_one_2 H7_one q7_mine_0 q7_mine_1 q7_mine_2 q7_mine_3 H7_mine q7_t_0 f7_t_0 q7_t_1 f7_t_1 q7_t_2 f7_t_2 q7_t_3 f7_t_3 H7_t
                have q8_r_0 := o8_r.cell (i := 0) rfl
                have q8_r_1 := o8_r.cell (i := 1) rfl
                have q8_r_2 := o8_r.cell (i := 2) rfl
                have l8_r := o8_r.lt
                have H8_r := hide o8_r
                clear o8_r
                have q8_one_0 := o8_one.cell (i := 0) rfl
                have q8_one_1 := o8_one.cell (i := 1) rfl
                have q8_one_2 := o8_one.cell (i := 2) rfl
                have l8_one := o8_one.lt
                have H8_one := hide o8_one
                clear o8_one
                have q8_mine_0 := o8_mine.cell (i := 0) rfl
                have q8_mine_1 := o8_mine.cell (i := 1) rfl
                have q8_mine_2 := o8_mine.cell (i := 2) rfl
                have q8_mine_3 := o8_mine.cell (i := 3) rfl
                have l8_mine := o8_mine.lt
                have H8_mine := hide o8_mine
                clear o8_mine
                have q8_t_0 := o8_t.cell (i := 0) rfl
                have f8_t_0 := o8_t.free 0
                have q8_t_1 := o8_t.cell (i := 1) rfl
                have f8_t_1 := o8_t.free 1
                have q8_t_2 := o8_t.cell (i := 2) rfl
                have f8_t_2 := o8_t.free 2
                have q8_t_3 := o8_t.cell (i := 3) rfl
                have f8_t_3 := o8_t.free 3
                have l8_t := o8_t.lt
                have H8_t := hide o8_t
                clear o8_t
                have hy8 : w.heap.size ≤ w8.heap.size := hB8.size
                clear hb8
                by_cases w1 : ot = a
                ·
                  have tw : (ot != a) = false := by simp [w1]
                  clear w1 hoe
                  by_cases f1 : e = 100
                  ·
                    have TN := hide (HT4.out f1)
                    subst f1
                    go_wp2_with fail
                    refine (TN.out _).mono ?_
                    rintro e w9 ⟨rfl, hb9⟩
                    have hB9 : Below w.heap.size w w9 := by
                      refine Below.trans ?_ (Below.mono hb9 ?_)
                      · go_grown
                      · first | omega | (simp; done) | (simp; omega)
                    have o9_r : ObjAt w9 (w.heap.size) 47 [.int .i64 100, .int .i64 k, .int .i64 o] := ObjAt.below (H8_r.out) hb9
                    have o9_one : ObjAt w9 (w1.heap.size) 47 [.int .i64 0, .int .i64 v5, .int .i64 0] := ObjAt.below (H8_one.out) hb9
                    have o9_mine : ObjAt w9 (w2.heap.size) 73 [.int .i64 0, .int .i64 3, .int .i64 10, .int .i64 g5] := ObjAt.below (H8_mine.out) hb9
                    have o9_t : ObjAt w9 (w6.heap.size) 73 [.int .i64 100, .int .i64 a, .int .i64 tm, .int .i64 g] := ObjAt.below (H8_t.out) hb9
                    clear q8_r_0 q8_r_1 q8_r_2 H8_r q8_one_0 q8_one_1 q8_one_2 H8_one q8_mine_0 q8_mine_1 q8_mine_2 q8_mine_3 H8_mine q8_t_0 f8_t_0 q8_t_1 f8_t_1 q8_t_2 f8_t_2 q8_t_3 f8_t_3 H8_t
                    have q9_r_0 := o9_r.cell (i := 0) rfl
                    have q9_r_1 := o9_r.cell (i := 1) rfl
                    have q9_r_2 := o9_r.cell (i := 2) rfl
                    have l9_r := o9_r.lt
                    have H9_r := hide o9_r
                    clear o9_r
                    have q9_one_0 := o9_one.cell (i := 0) rfl
                    have q9_one_1 := o9_one.cell (i := 1) rfl
                    have q9_one_2 := o9_one.cell (i := 2) rfl
                    have l9_one := o9_one.lt
                    have H9_one := hide o9_one
                    clear o9_one
                    have q9_mine_0 := o9_mine.cell (i := 0) rfl
                    have q9_mine_1 := o9_mine.cell (i := 1) rfl
                    have q9_mine_2 := o9_mine.cell (i := 2) rfl
                    have q9_mine_3 := o9_mine.cell (i := 3) rfl
                    have l9_mine := o9_mine.lt
                    have H9_mine := hide o9_mine
                    clear o9_mine
                    have q9_t_0 := o9_t.cell (i := 0) rfl
                    have f9_t_0 := o9_t.free 0
                    have q9_t_1 := o9_t.cell (i := 1) rfl
                    have f9_t_1 := o9_t.free 1
                    have q9_t_2 := o9_t.cell (i := 2) rfl
                    have f9_t_2 := o9_t.free 2
                    have q9_t_3 := o9_t.cell (i := 3) rfl
                    have f9_t_3 := o9_t.free 3
                    have l9_t := o9_t.lt
                    have H9_t := hide o9_t
                    clear o9_t
                    have hy9 : w.heap.size ≤ w9.heap.size := hB9.size
                    clear hb9
                    by_cases z1 : n = g
                    ·
                      have tz : (n == g) = true := by simp [z1]
                      clear z1
                      go_wp2
                      go_ret
                      exact ⟨rfl, by go_grown⟩
                    ·
                      have tz : (n == g) = false := beq_eq_false_iff_ne.2 z1
                      by_cases z2 : n < 0
                      ·
                        clear z1
                        go_wp2
                        go_ret
                        exact ⟨rfl, by go_grown⟩
                      ·
                        have z2' : 0 ≤ n := by omega
                        by_cases z3 : 999982 < n
                        ·
                          clear z1 z2
                          go_wp2
                          go_ret
                          exact ⟨rfl, by go_grown⟩
                        ·
                          have z3' : n ≤ 999982 := by omega
                          have CN : Hid (∀ W, Calls Tryd.prog 40 #[.agg #[.int .i64 100, .int .i64 k, .int .i64 o], .agg #[.int .i64 100, .int .i64 a, .int .i64 tm, .int .i64 n], .int .i64 a, .int .i64 now, .int .i64 li] W fun r w' => r = .returned (.iface 94 (.int .i64 8)) ∧ Below W.heap.size W w') := tokenCheck_eq (HQ3.out hn.out hl.out (inB_true.2 ⟨z2', by omega⟩) z1)
                          clear z1 z2 z3
                          go_wp2_with fail
                          refine (CN.out _).mono ?_
                          rintro e w10 ⟨rfl, hb10⟩
                          have hB10 : Below w.heap.size w w10 := by
                            refine Below.trans ?_ (Below.mono hb10 ?_)
                            · go_grown
                            · first | omega | (simp; done) | (simp; omega)
                          have o10_r : ObjAt w10 (w.heap.size) 47 [.int .i64 100, .int .i64 k, .int .i64 o] := ObjAt.below (ObjAt.alloc (ObjAt.setOther (H9_r.out) (by simp; omega) _) _) hb10
                          have o10_one : ObjAt w10 (w1.heap.size) 47 [.int .i64 0, .int .i64 v5, .int .i64 0] := ObjAt.below (ObjAt.alloc (ObjAt.setOther (H9_one.out) (by simp; omega) _) _) hb10
                          have o10_mine : ObjAt w10 (w2.heap.size) 73 [.int .i64 0, .int .i64 3, .int .i64 10, .int .i64 g5] := ObjAt.below (ObjAt.alloc (ObjAt.setOther (H9_mine.out) (by simp; omega) _) _) hb10
                          have o10_t : ObjAt w10 (w6.heap.size) 73 [.int .i64 100, .int .i64 a, .int .i64 tm, .int .i64 n] := ObjAt.below (ObjAt.alloc (ObjAt.set (H9_t.out) 3 _) _) hb10
                          have o10_x : ObjAt w10 (w9.heap.size) 47 [.int .i64 0, .int .i64 0, .int .i64 0] := ObjAt.below (objNew (by simp)) hb10
                          clear q9_r_0 q9_r_1 q9_r_2 H9_r q9_one_0 q9_one_1 q9_one_2 H9_one q9_mine_0 q9_mine_1 q9_mine_2 q9_mine_3 H9_mine q9_t_0 f9_t_0 q9_t_1 f9_t_1 q9_t_2 f9_t_2 q9_t_3 f9_t_3 H9_t
                          have q10_r_0 := o10_r.cell (i := 0) rfl
                          have q10_r_1 := o10_r.cell (i := 1) rfl
                          have q10_r_2 := o10_r.cell (i := 2) rfl
                          have l10_r := o10_r.lt
                          have H10_r := hide o10_r
                          clear o10_r
                          have q10_one_0 := o10_one.cell (i := 0) rfl
                          have q10_one_1 := o10_one.cell (i := 1) rfl
                          have q10_one_2 := o10_one.cell (i := 2) rfl
                          have l10_one := o10_one.lt
                          have H10_one := hide o10_one
                          clear o10_one
                          have q10_mine_0 := o10_mine.cell (i := 0) rfl
                          have q10_mine_1 := o10_mine.cell (i := 1) rfl
                          have q10_mine_2 := o10_mine.cell (i := 2) rfl
                          have q10_mine_3 := o10_mine.cell (i := 3) rfl
                          have l10_mine := o10_mine.lt
                          have H10_mine := hide o10_mine
                          clear o10_mine
                          have q10_t_0 := o10_t.cell (i := 0) rfl
                          have f10_t_0 := o10_t.free 0
                          have q10_t_1 := o10_t.cell (i := 1) rfl
                          have f10_t_1 := o10_t.free 1
                          have q10_t_2 := o10_t.cell (i := 2) rfl
                          have f10_t_2 := o10_t.free 2
                          have q10_t_3 := o10_t.cell (i := 3) rfl
                          have f10_t_3 := o10_t.free 3
                          have l10_t := o10_t.lt
                          have H10_t := hide o10_t
                          clear o10_t
                          have q10_x_0 := o10_x.cell (i := 0) rfl
                          have q10_x_1 := o10_x.cell (i := 1) rfl
                          have q10_x_2 := o10_x.cell (i := 2) rfl
                          have l10_x := o10_x.lt
                          have H10_x := hide o10_x
                          clear o10_x
                          have hy10 : w.heap.size ≤ w10.heap.size := hB10.size
                          clear hb10
                          go_wp2_with fail
                          refine (error_any 8 8 _ (hE.below (B := w.heap.size) (by go_grown) hE.pos)).mono ?_
                          rintro e w11 ⟨rfl, hb11⟩
                          have hB11 : Below w.heap.size w w11 := by
                            refine Below.trans ?_ (Below.mono hb11 ?_)
                            · go_grown
                            · first | omega | (simp; done) | (simp; omega)
                          have o11_r : ObjAt w11 (w.heap.size) 47 [.int .i64 100, .int .i64 k, .int .i64 o] := ObjAt.below (H10_r.out) hb11
                          have o11_one : ObjAt w11 (w1.heap.size) 47 [.int .i64 0, .int .i64 v5, .int .i64 0] := ObjAt.below (H10_one.out) hb11
                          have o11_mine : ObjAt w11 (w2.heap.size) 73 [.int .i64 0, .int .i64 3, .int .i64 10, .int .i64 g5] := ObjAt.below (H10_mine.out) hb11
                          have o11_t : ObjAt w11 (w6.heap.size) 73 [.int .i64 100, .int .i64 a, .int .i64 tm, .int .i64 n] := ObjAt.below (H10_t.out) hb11
                          have o11_x : ObjAt w11 (w9.heap.size) 47 [.int .i64 0, .int .i64 0, .int .i64 0] := ObjAt.below (H10_x.out) hb11
                          clear q10_r_0 q10_r_1 q10_r_2 H10_r q10_one_0 q10_one_1 q10_one_2 H10_one q10_mine_0 q10_mine_1 q10_mine_2 q10_mine_3 H10_mine q10_t_0 f10_t_0 q10_t_1 f10_t_1 q10_t_2 f10_t_2 q10_t_3 f10_t_3 H10_t q10_x_0 q10_x_1 q10_x_2 H10_x
                          have q11_r_0 := o11_r.cell (i := 0) rfl
                          have q11_r_1 := o11_r.cell (i := 1) rfl
                          have q11_r_2 := o11_r.cell (i := 2) rfl
                          have l11_r := o11_r.lt
                          have H11_r := hide o11_r
                          clear o11_r
                          have q11_one_0 := o11_one.cell (i := 0) rfl
                          have q11_one_1 := o11_one.cell (i := 1) rfl
                          have q11_one_2 := o11_one.cell (i := 2) rfl
                          have l11_one := o11_one.lt
                          have H11_one := hide o11_one
                          clear o11_one
                          have q11_mine_0 := o11_mine.cell (i := 0) rfl
                          have q11_mine_1 := o11_mine.cell (i := 1) rfl
                          have q11_mine_2 := o11_mine.cell (i := 2) rfl
                          have q11_mine_3 := o11_mine.cell (i := 3) rfl
                          have l11_mine := o11_mine.lt
                          have H11_mine := hide o11_mine
                          clear o11_mine
                          have q11_t_0 := o11_t.cell (i := 0) rfl
                          have f11_t_0 := o11_t.free 0
                          have q11_t_1 := o11_t.cell (i := 1) rfl
                          have f11_t_1 := o11_t.free 1
                          have q11_t_2 := o11_t.cell (i := 2) rfl
                          have f11_t_2 := o11_t.free 2
                          have q11_t_3 := o11_t.cell (i := 3) rfl
                          have f11_t_3 := o11_t.free 3
                          have l11_t := o11_t.lt
                          have H11_t := hide o11_t
                          clear o11_t
                          have q11_x_0 := o11_x.cell (i := 0) rfl
                          have q11_x_1 := o11_x.cell (i := 1) rfl
                          have q11_x_2 := o11_x.cell (i := 2) rfl
                          have l11_x := o11_x.lt
                          have H11_x := hide o11_x
                          clear o11_x
                          have hy11 : w.heap.size ≤ w11.heap.size := hB11.size
                          clear hb11
                          go_wp2
                          go_ret
                          exact ⟨rfl, by go_grown⟩
                  ·
                    by_cases f2 : e = 99
                    ·
                      have TN := hide (HT1.out (by omega))
                      have TM := hide (HT3.out f2)
                      have hx := HQ1.out (by omega) hn.out hl.out
                      rw [if_neg (by omega)] at hx
                      subst f2
                      obtain ⟨k2, hk2⟩ : ∃ k2, k2 = tagOf k [100] := ⟨_, rfl⟩
                      rw [show (99 : Int) + 1 = 100 from rfl] at TN hx
                      rw [← hk2] at TN TM hx
                      have CX : Hid (∀ W, Calls Tryd.prog 40 #[.agg #[.int .i64 100, .int .i64 k2, .int .i64 k], .agg #[.int .i64 99, .int .i64 a, .int .i64 tm, .int .i64 g], .int .i64 a, .int .i64 now, .int .i64 li] W fun r w' => r = .returned (.nilIface) ∧ Below W.heap.size W w') := tokenCheck_eq hx
                      clear hx hk2 f1
                      go_wp2_with fail
                      refine (TN.out _).mono ?_
                      rintro e w9 ⟨rfl, hb9⟩
                      have hB9 : Below w.heap.size w w9 := by
                        refine Below.trans ?_ (Below.mono hb9 ?_)
                        · go_grown
                        · first | omega | (simp; done) | (simp; omega)
                      have o9_r : ObjAt w9 (w.heap.size) 47 [.int .i64 99, .int .i64 k, .int .i64 o] := ObjAt.below (H8_r.out) hb9
                      have o9_one : ObjAt w9 (w1.heap.size) 47 [.int .i64 0, .int .i64 v5, .int .i64 0] := ObjAt.below (H8_one.out) hb9
                      have o9_mine : ObjAt w9 (w2.heap.size) 73 [.int .i64 0, .int .i64 3, .int .i64 10, .int .i64 g5] := ObjAt.below (H8_mine.out) hb9
                      have o9_t : ObjAt w9 (w6.heap.size) 73 [.int .i64 99, .int .i64 a, .int .i64 tm, .int .i64 g] := ObjAt.below (H8_t.out) hb9
                      clear q8_r_0 q8_r_1 q8_r_2 H8_r q8_one_0 q8_one_1 q8_one_2 H8_one q8_mine_0 q8_mine_1 q8_mine_2 q8_mine_3 H8_mine q8_t_0 f8_t_0 q8_t_1 f8_t_1 q8_t_2 f8_t_2 q8_t_3 f8_t_3 H8_t
                      have q9_r_0 := o9_r.cell (i := 0) rfl
                      have q9_r_1 := o9_r.cell (i := 1) rfl
                      have q9_r_2 := o9_r.cell (i := 2) rfl
                      have l9_r := o9_r.lt
                      have H9_r := hide o9_r
                      clear o9_r
                      have q9_one_0 := o9_one.cell (i := 0) rfl
                      have q9_one_1 := o9_one.cell (i := 1) rfl
                      have q9_one_2 := o9_one.cell (i := 2) rfl
                      have l9_one := o9_one.lt
                      have H9_one := hide o9_one
                      clear o9_one
                      have q9_mine_0 := o9_mine.cell (i := 0) rfl
                      have q9_mine_1 := o9_mine.cell (i := 1) rfl
                      have q9_mine_2 := o9_mine.cell (i := 2) rfl
                      have q9_mine_3 := o9_mine.cell (i := 3) rfl
                      have l9_mine := o9_mine.lt
                      have H9_mine := hide o9_mine
                      clear o9_mine
                      have q9_t_0 := o9_t.cell (i := 0) rfl
                      have f9_t_0 := o9_t.free 0
                      have q9_t_1 := o9_t.cell (i := 1) rfl
                      have f9_t_1 := o9_t.free 1
                      have q9_t_2 := o9_t.cell (i := 2) rfl
                      have f9_t_2 := o9_t.free 2
                      have q9_t_3 := o9_t.cell (i := 3) rfl
                      have f9_t_3 := o9_t.free 3
                      have l9_t := o9_t.lt
                      have H9_t := hide o9_t
                      clear o9_t
                      have hy9 : w.heap.size ≤ w9.heap.size := hB9.size
                      clear hb9
                      go_wp2_with fail
                      refine (TM.out _).mono ?_
                      rintro e w10 ⟨rfl, hb10⟩
                      have hB10 : Below w.heap.size w w10 := by
                        refine Below.trans ?_ (Below.mono hb10 ?_)
                        · go_grown
                        · first | omega | (simp; done) | (simp; omega)
                      have o10_r : ObjAt w10 (w.heap.size) 47 [.int .i64 99, .int .i64 k, .int .i64 o] := ObjAt.below (ObjAt.alloc (H9_r.out) _) hb10
                      have o10_one : ObjAt w10 (w1.heap.size) 47 [.int .i64 0, .int .i64 v5, .int .i64 0] := ObjAt.below (ObjAt.alloc (H9_one.out) _) hb10
                      have o10_mine : ObjAt w10 (w2.heap.size) 73 [.int .i64 0, .int .i64 3, .int .i64 10, .int .i64 g5] := ObjAt.below (ObjAt.alloc (H9_mine.out) _) hb10
                      have o10_t : ObjAt w10 (w6.heap.size) 73 [.int .i64 99, .int .i64 a, .int .i64 tm, .int .i64 g] := ObjAt.below (ObjAt.alloc (H9_t.out) _) hb10
                      have o10_x : ObjAt w10 (w9.heap.size) 47 [.int .i64 100, .int .i64 k2, .int .i64 k] := ObjAt.below (objNew (by simp)) hb10
                      clear q9_r_0 q9_r_1 q9_r_2 H9_r q9_one_0 q9_one_1 q9_one_2 H9_one q9_mine_0 q9_mine_1 q9_mine_2 q9_mine_3 H9_mine q9_t_0 f9_t_0 q9_t_1 f9_t_1 q9_t_2 f9_t_2 q9_t_3 f9_t_3 H9_t
                      have q10_r_0 := o10_r.cell (i := 0) rfl
                      have q10_r_1 := o10_r.cell (i := 1) rfl
                      have q10_r_2 := o10_r.cell (i := 2) rfl
                      have l10_r := o10_r.lt
                      have H10_r := hide o10_r
                      clear o10_r
                      have q10_one_0 := o10_one.cell (i := 0) rfl
                      have q10_one_1 := o10_one.cell (i := 1) rfl
                      have q10_one_2 := o10_one.cell (i := 2) rfl
                      have l10_one := o10_one.lt
                      have H10_one := hide o10_one
                      clear o10_one
                      have q10_mine_0 := o10_mine.cell (i := 0) rfl
                      have q10_mine_1 := o10_mine.cell (i := 1) rfl
                      have q10_mine_2 := o10_mine.cell (i := 2) rfl
                      have q10_mine_3 := o10_mine.cell (i := 3) rfl
                      have l10_mine := o10_mine.lt
                      have H10_mine := hide o10_mine
                      clear o10_mine
                      have q10_t_0 := o10_t.cell (i := 0) rfl
                      have f10_t_0 := o10_t.free 0
                      have q10_t_1 := o10_t.cell (i := 1) rfl
                      have f10_t_1 := o10_t.free 1
                      have q10_t_2 := o10_t.cell (i := 2) rfl
                      have f10_t_2 := o10_t.free 2
                      have q10_t_3 := o10_t.cell (i := 3) rfl
                      have f10_t_3 := o10_t.free 3
                      have l10_t := o10_t.lt
                      have H10_t := hide o10_t
                      clear o10_t
                      have q10_x_0 := o10_x.cell (i := 0) rfl
                      have q10_x_1 := o10_x.cell (i := 1) rfl
                      have q10_x_2 := o10_x.cell (i := 2) rfl
                      have l10_x := o10_x.lt
                      have H10_x := hide o10_x
                      clear o10_x
                      have hy10 : w.heap.size ≤ w10.heap.size := hB10.size
                      clear hb10
                      go_wp2_with fail
                      refine (CX.out _).mono ?_
                      rintro e w11 ⟨rfl, hb11⟩
                      have hB11 : Below w.heap.size w w11 := by
                        refine Below.trans ?_ (Below.mono hb11 ?_)
                        · go_grown
                        · first | omega | (simp; done) | (simp; omega)
                      have o11_r : ObjAt w11 (w.heap.size) 47 [.int .i64 99, .int .i64 k, .int .i64 o] := ObjAt.below (ObjAt.alloc (H10_r.out) _) hb11
                      have o11_one : ObjAt w11 (w1.heap.size) 47 [.int .i64 0, .int .i64 v5, .int .i64 0] := ObjAt.below (ObjAt.alloc (H10_one.out) _) hb11
                      have o11_mine : ObjAt w11 (w2.heap.size) 73 [.int .i64 0, .int .i64 3, .int .i64 10, .int .i64 g5] := ObjAt.below (ObjAt.alloc (H10_mine.out) _) hb11
                      have o11_t : ObjAt w11 (w6.heap.size) 73 [.int .i64 99, .int .i64 a, .int .i64 tm, .int .i64 g] := ObjAt.below (ObjAt.alloc (H10_t.out) _) hb11
                      have o11_x : ObjAt w11 (w9.heap.size) 47 [.int .i64 100, .int .i64 k2, .int .i64 k] := ObjAt.below (ObjAt.alloc (H10_x.out) _) hb11
                      have o11_y : ObjAt w11 (w10.heap.size) 47 [.int .i64 0, .int .i64 0, .int .i64 0] := ObjAt.below (objNew (by simp)) hb11
                      clear q10_r_0 q10_r_1 q10_r_2 H10_r q10_one_0 q10_one_1 q10_one_2 H10_one q10_mine_0 q10_mine_1 q10_mine_2 q10_mine_3 H10_mine q10_t_0 f10_t_0 q10_t_1 f10_t_1 q10_t_2 f10_t_2 q10_t_3 f10_t_3 H10_t q10_x_0 q10_x_1 q10_x_2 H10_x
                      have q11_r_0 := o11_r.cell (i := 0) rfl
                      have q11_r_1 := o11_r.cell (i := 1) rfl
                      have q11_r_2 := o11_r.cell (i := 2) rfl
                      have l11_r := o11_r.lt
                      have H11_r := hide o11_r
                      clear o11_r
                      have q11_one_0 := o11_one.cell (i := 0) rfl
                      have q11_one_1 := o11_one.cell (i := 1) rfl
                      have q11_one_2 := o11_one.cell (i := 2) rfl
                      have l11_one := o11_one.lt
                      have H11_one := hide o11_one
                      clear o11_one
                      have q11_mine_0 := o11_mine.cell (i := 0) rfl
                      have q11_mine_1 := o11_mine.cell (i := 1) rfl
                      have q11_mine_2 := o11_mine.cell (i := 2) rfl
                      have q11_mine_3 := o11_mine.cell (i := 3) rfl
                      have l11_mine := o11_mine.lt
                      have H11_mine := hide o11_mine
                      clear o11_mine
                      have q11_t_0 := o11_t.cell (i := 0) rfl
                      have f11_t_0 := o11_t.free 0
                      have q11_t_1 := o11_t.cell (i := 1) rfl
                      have f11_t_1 := o11_t.free 1
                      have q11_t_2 := o11_t.cell (i := 2) rfl
                      have f11_t_2 := o11_t.free 2
                      have q11_t_3 := o11_t.cell (i := 3) rfl
                      have f11_t_3 := o11_t.free 3
                      have l11_t := o11_t.lt
                      have H11_t := hide o11_t
                      clear o11_t
                      have q11_x_0 := o11_x.cell (i := 0) rfl
                      have q11_x_1 := o11_x.cell (i := 1) rfl
                      have q11_x_2 := o11_x.cell (i := 2) rfl
                      have l11_x := o11_x.lt
                      have H11_x := hide o11_x
                      clear o11_x
                      have q11_y_0 := o11_y.cell (i := 0) rfl
                      have q11_y_1 := o11_y.cell (i := 1) rfl
                      have q11_y_2 := o11_y.cell (i := 2) rfl
                      have l11_y := o11_y.lt
                      have H11_y := hide o11_y
                      clear o11_y
                      have hy11 : w.heap.size ≤ w11.heap.size := hB11.size
                      clear hb11
                      by_cases z1 : n = g
                      ·
                        have tz : (n == g) = true := by simp [z1]
                        clear z1
                        go_wp2
                        go_ret
                        exact ⟨rfl, by go_grown⟩
                      ·
                        have tz : (n == g) = false := beq_eq_false_iff_ne.2 z1
                        by_cases z2 : n < 0
                        ·
                          clear z1
                          go_wp2
                          go_ret
                          exact ⟨rfl, by go_grown⟩
                        ·
                          have z2' : 0 ≤ n := by omega
                          by_cases z3 : 999982 < n
                          ·
                            clear z1 z2
                            go_wp2
                            go_ret
                            exact ⟨rfl, by go_grown⟩
                          ·
                            have z3' : n ≤ 999982 := by omega
                            have CN : Hid (∀ W, Calls Tryd.prog 40 #[.agg #[.int .i64 99, .int .i64 k, .int .i64 o], .agg #[.int .i64 99, .int .i64 a, .int .i64 tm, .int .i64 n], .int .i64 a, .int .i64 now, .int .i64 li] W fun r w' => r = .returned (.iface 94 (.int .i64 8)) ∧ Below W.heap.size W w') := tokenCheck_eq (HQ3.out hn.out hl.out (inB_true.2 ⟨z2', by omega⟩) z1)
                            clear z1 z2 z3
                            go_wp2_with fail
                            refine (CN.out _).mono ?_
                            rintro e w12 ⟨rfl, hb12⟩
                            have hB12 : Below w.heap.size w w12 := by
                              refine Below.trans ?_ (Below.mono hb12 ?_)
                              · go_grown
                              · first | omega | (simp; done) | (simp; omega)
                            have o12_r : ObjAt w12 (w.heap.size) 47 [.int .i64 99, .int .i64 k, .int .i64 o] := ObjAt.below (ObjAt.setOther (H11_r.out) (by simp; omega) _) hb12
                            have o12_one : ObjAt w12 (w1.heap.size) 47 [.int .i64 0, .int .i64 v5, .int .i64 0] := ObjAt.below (ObjAt.setOther (H11_one.out) (by simp; omega) _) hb12
                            have o12_mine : ObjAt w12 (w2.heap.size) 73 [.int .i64 0, .int .i64 3, .int .i64 10, .int .i64 g5] := ObjAt.below (ObjAt.setOther (H11_mine.out) (by simp; omega) _) hb12
                            have o12_t : ObjAt w12 (w6.heap.size) 73 [.int .i64 99, .int .i64 a, .int .i64 tm, .int .i64 n] := ObjAt.below (ObjAt.set (H11_t.out) 3 _) hb12
                            have o12_x : ObjAt w12 (w9.heap.size) 47 [.int .i64 100, .int .i64 k2, .int .i64 k] := ObjAt.below (ObjAt.setOther (H11_x.out) (by simp; omega) _) hb12
                            have o12_y : ObjAt w12 (w10.heap.size) 47 [.int .i64 0, .int .i64 0, .int .i64 0] := ObjAt.below (ObjAt.setOther (H11_y.out) (by simp; omega) _) hb12
                            clear q11_r_0 q11_r_1 q11_r_2 H11_r q11_one_0 q11_one_1 q11_one_2 H11_one q11_mine_0 q11_mine_1 q11_mine_2 q11_mine_3 H11_mine q11_t_0 f11_t_0 q11_t_1 f11_t_1 q11_t_2 f11_t_2 q11_t_3 f11_t_3 H11_t q11_x_0 q11_x_1 q11_x_2 H11_x q11_y_0 q11_y_1 q11_y_2 H11_y
                            have q12_r_0 := o12_r.cell (i := 0) rfl
                            have q12_r_1 := o12_r.cell (i := 1) rfl
                            have q12_r_2 := o12_r.cell (i := 2) rfl
                            have l12_r := o12_r.lt
                            have H12_r := hide o12_r
                            clear o12_r
                            have q12_one_0 := o12_one.cell (i := 0) rfl
                            have q12_one_1 := o12_one.cell (i := 1) rfl
                            have q12_one_2 := o12_one.cell (i := 2) rfl
                            have l12_one := o12_one.lt
                            have H12_one := hide o12_one
                            clear o12_one
                            have q12_mine_0 := o12_mine.cell (i := 0) rfl
                            have q12_mine_1 := o12_mine.cell (i := 1) rfl
                            have q12_mine_2 := o12_mine.cell (i := 2) rfl
                            have q12_mine_3 := o12_mine.cell (i := 3) rfl
                            have l12_mine := o12_mine.lt
                            have H12_mine := hide o12_mine
                            clear o12_mine
                            have q12_t_0 := o12_t.cell (i := 0) rfl
                            have f12_t_0 := o12_t.free 0
                            have q12_t_1 := o12_t.cell (i := 1) rfl
                            have f12_t_1 := o12_t.free 1
                            have q12_t_2 := o12_t.cell (i := 2) rfl
                            have f12_t_2 := o12_t.free 2
                            have q12_t_3 := o12_t.cell (i := 3) rfl
                            have f12_t_3 := o12_t.free 3
                            have l12_t := o12_t.lt
                            have H12_t := hide o12_t
                            clear o12_t
                            have q12_x_0 := o12_x.cell (i := 0) rfl
                            have q12_x_1 := o12_x.cell (i := 1) rfl
                            have q12_x_2 := o12_x.cell (i := 2) rfl
                            have l12_x := o12_x.lt
                            have H12_x := hide o12_x
                            clear o12_x
                            have q12_y_0 := o12_y.cell (i := 0) rfl
                            have q12_y_1 := o12_y.cell (i := 1) rfl
                            have q12_y_2 := o12_y.cell (i := 2) rfl
                            have l12_y := o12_y.lt
                            have H12_y := hide o12_y
                            clear o12_y
                            have hy12 : w.heap.size ≤ w12.heap.size := hB12.size
                            clear hb12
                            go_wp2_with fail
                            refine (error_any 8 8 _ (hE.below (B := w.heap.size) (by go_grown) hE.pos)).mono ?_
                            rintro e w13 ⟨rfl, hb13⟩
                            have hB13 : Below w.heap.size w w13 := by
                              refine Below.trans ?_ (Below.mono hb13 ?_)
                              · go_grown
                              · first | omega | (simp; done) | (simp; omega)
                            have o13_r : ObjAt w13 (w.heap.size) 47 [.int .i64 99, .int .i64 k, .int .i64 o] := ObjAt.below (H12_r.out) hb13
                            have o13_one : ObjAt w13 (w1.heap.size) 47 [.int .i64 0, .int .i64 v5, .int .i64 0] := ObjAt.below (H12_one.out) hb13
                            have o13_mine : ObjAt w13 (w2.heap.size) 73 [.int .i64 0, .int .i64 3, .int .i64 10, .int .i64 g5] := ObjAt.below (H12_mine.out) hb13
                            have o13_t : ObjAt w13 (w6.heap.size) 73 [.int .i64 99, .int .i64 a, .int .i64 tm, .int .i64 n] := ObjAt.below (H12_t.out) hb13
                            have o13_x : ObjAt w13 (w9.heap.size) 47 [.int .i64 100, .int .i64 k2, .int .i64 k] := ObjAt.below (H12_x.out) hb13
                            have o13_y : ObjAt w13 (w10.heap.size) 47 [.int .i64 0, .int .i64 0, .int .i64 0] := ObjAt.below (H12_y.out) hb13
                            clear q12_r_0 q12_r_1 q12_r_2 H12_r q12_one_0 q12_one_1 q12_one_2 H12_one q12_mine_0 q12_mine_1 q12_mine_2 q12_mine_3 H12_mine q12_t_0 f12_t_0 q12_t_1 f12_t_1 q12_t_2 f12_t_2 q12_t_3 f12_t_3 H12_t q12_x_0 q12_x_1 q12_x_2 H12_x q12_y_0 q12_y_1 q12_y_2 H12_y
                            have q13_r_0 := o13_r.cell (i := 0) rfl
                            have q13_r_1 := o13_r.cell (i := 1) rfl
                            have q13_r_2 := o13_r.cell (i := 2) rfl
                            have l13_r := o13_r.lt
                            have H13_r := hide o13_r
                            clear o13_r
                            have q13_one_0 := o13_one.cell (i := 0) rfl
                            have q13_one_1 := o13_one.cell (i := 1) rfl
                            have q13_one_2 := o13_one.cell (i := 2) rfl
                            have l13_one := o13_one.lt
                            have H13_one := hide o13_one
                            clear o13_one
                            have q13_mine_0 := o13_mine.cell (i := 0) rfl
                            have q13_mine_1 := o13_mine.cell (i := 1) rfl
                            have q13_mine_2 := o13_mine.cell (i := 2) rfl
                            have q13_mine_3 := o13_mine.cell (i := 3) rfl
                            have l13_mine := o13_mine.lt
                            have H13_mine := hide o13_mine
                            clear o13_mine
                            have q13_t_0 := o13_t.cell (i := 0) rfl
                            have f13_t_0 := o13_t.free 0
                            have q13_t_1 := o13_t.cell (i := 1) rfl
                            have f13_t_1 := o13_t.free 1
                            have q13_t_2 := o13_t.cell (i := 2) rfl
                            have f13_t_2 := o13_t.free 2
                            have q13_t_3 := o13_t.cell (i := 3) rfl
                            have f13_t_3 := o13_t.free 3
                            have l13_t := o13_t.lt
                            have H13_t := hide o13_t
                            clear o13_t
                            have q13_x_0 := o13_x.cell (i := 0) rfl
                            have q13_x_1 := o13_x.cell (i := 1) rfl
                            have q13_x_2 := o13_x.cell (i := 2) rfl
                            have l13_x := o13_x.lt
                            have H13_x := hide o13_x
                            clear o13_x
                            have q13_y_0 := o13_y.cell (i := 0) rfl
                            have q13_y_1 := o13_y.cell (i := 1) rfl
                            have q13_y_2 := o13_y.cell (i := 2) rfl
                            have l13_y := o13_y.lt
                            have H13_y := hide o13_y
                            clear o13_y
                            have hy13 : w.heap.size ≤ w13.heap.size := hB13.size
                            clear hb13
                            go_wp2
                            go_ret
                            exact ⟨rfl, by go_grown⟩
                    ·
                      have TN := hide (HT1.out (by omega))
                      have TM := hide (HT2.out (by omega))
                      have hx := HQ1.out (by omega) hn.out hl.out
                      have hy := HQ2.out (by omega) hn.out hl.out
                      rw [if_neg (by omega)] at hx
                      rw [show e + 1 + 1 = e + 2 by omega] at TM
                      obtain ⟨k2, hk2⟩ : ∃ k2, k2 = tagOf k [e + 1] := ⟨_, rfl⟩
                      rw [← hk2] at TN TM hx hy
                      obtain ⟨k3, hk3⟩ : ∃ k3, k3 = tagOf k2 [e + 2] := ⟨_, rfl⟩
                      rw [← hk3] at TM hy
                      have CX : Hid (∀ W, Calls Tryd.prog 40 #[.agg #[.int .i64 (e + 1), .int .i64 k2, .int .i64 k], .agg #[.int .i64 e, .int .i64 a, .int .i64 tm, .int .i64 g], .int .i64 a, .int .i64 now, .int .i64 li] W fun r w' => r = .returned (.nilIface) ∧ Below W.heap.size W w') := tokenCheck_eq hx
                      have CY : Hid (∀ W, Calls Tryd.prog 40 #[.agg #[.int .i64 (e + 2), .int .i64 k3, .int .i64 k2], .agg #[.int .i64 e, .int .i64 a, .int .i64 tm, .int .i64 g], .int .i64 a, .int .i64 now, .int .i64 li] W fun r w' => r = .returned (.iface 94 (.int .i64 9)) ∧ Below W.heap.size W w') := tokenCheck_eq hy
                      have f3 : e < 99 := by omega
                      clear hx hy hk2 hk3 f1 f2
                      go_wp2_with fail
                      refine (TN.out _).mono ?_
                      rintro e w9 ⟨rfl, hb9⟩
                      have hB9 : Below w.heap.size w w9 := by
                        refine Below.trans ?_ (Below.mono hb9 ?_)
                        · go_grown
                        · first | omega | (simp; done) | (simp; omega)
                      have o9_r : ObjAt w9 (w.heap.size) 47 [.int .i64 e, .int .i64 k, .int .i64 o] := ObjAt.below (H8_r.out) hb9
                      have o9_one : ObjAt w9 (w1.heap.size) 47 [.int .i64 0, .int .i64 v5, .int .i64 0] := ObjAt.below (H8_one.out) hb9
                      have o9_mine : ObjAt w9 (w2.heap.size) 73 [.int .i64 0, .int .i64 3, .int .i64 10, .int .i64 g5] := ObjAt.below (H8_mine.out) hb9
                      have o9_t : ObjAt w9 (w6.heap.size) 73 [.int .i64 e, .int .i64 a, .int .i64 tm, .int .i64 g] := ObjAt.below (H8_t.out) hb9
                      clear q8_r_0 q8_r_1 q8_r_2 H8_r q8_one_0 q8_one_1 q8_one_2 H8_one q8_mine_0 q8_mine_1 q8_mine_2 q8_mine_3 H8_mine q8_t_0 f8_t_0 q8_t_1 f8_t_1 q8_t_2 f8_t_2 q8_t_3 f8_t_3 H8_t
                      have q9_r_0 := o9_r.cell (i := 0) rfl
                      have q9_r_1 := o9_r.cell (i := 1) rfl
                      have q9_r_2 := o9_r.cell (i := 2) rfl
                      have l9_r := o9_r.lt
                      have H9_r := hide o9_r
                      clear o9_r
                      have q9_one_0 := o9_one.cell (i := 0) rfl
                      have q9_one_1 := o9_one.cell (i := 1) rfl
                      have q9_one_2 := o9_one.cell (i := 2) rfl
                      have l9_one := o9_one.lt
                      have H9_one := hide o9_one
                      clear o9_one
                      have q9_mine_0 := o9_mine.cell (i := 0) rfl
                      have q9_mine_1 := o9_mine.cell (i := 1) rfl
                      have q9_mine_2 := o9_mine.cell (i := 2) rfl
                      have q9_mine_3 := o9_mine.cell (i := 3) rfl
                      have l9_mine := o9_mine.lt
                      have H9_mine := hide o9_mine
                      clear o9_mine
                      have q9_t_0 := o9_t.cell (i := 0) rfl
                      have f9_t_0 := o9_t.free 0
                      have q9_t_1 := o9_t.cell (i := 1) rfl
                      have f9_t_1 := o9_t.free 1
                      have q9_t_2 := o9_t.cell (i := 2) rfl
                      have f9_t_2 := o9_t.free 2
                      have q9_t_3 := o9_t.cell (i := 3) rfl
                      have f9_t_3 := o9_t.free 3
                      have l9_t := o9_t.lt
                      have H9_t := hide o9_t
                      clear o9_t
                      have hy9 : w.heap.size ≤ w9.heap.size := hB9.size
                      clear hb9
                      go_wp2_with fail
                      refine (TM.out _).mono ?_
                      rintro e w10 ⟨rfl, hb10⟩
                      have hB10 : Below w.heap.size w w10 := by
                        refine Below.trans ?_ (Below.mono hb10 ?_)
                        · go_grown
                        · first | omega | (simp; done) | (simp; omega)
                      have o10_r : ObjAt w10 (w.heap.size) 47 [.int .i64 e, .int .i64 k, .int .i64 o] := ObjAt.below (ObjAt.alloc (H9_r.out) _) hb10
                      have o10_one : ObjAt w10 (w1.heap.size) 47 [.int .i64 0, .int .i64 v5, .int .i64 0] := ObjAt.below (ObjAt.alloc (H9_one.out) _) hb10
                      have o10_mine : ObjAt w10 (w2.heap.size) 73 [.int .i64 0, .int .i64 3, .int .i64 10, .int .i64 g5] := ObjAt.below (ObjAt.alloc (H9_mine.out) _) hb10
                      have o10_t : ObjAt w10 (w6.heap.size) 73 [.int .i64 e, .int .i64 a, .int .i64 tm, .int .i64 g] := ObjAt.below (ObjAt.alloc (H9_t.out) _) hb10
                      have o10_x : ObjAt w10 (w9.heap.size) 47 [.int .i64 (e + 1), .int .i64 k2, .int .i64 k] := ObjAt.below (objNew (by simp)) hb10
                      clear q9_r_0 q9_r_1 q9_r_2 H9_r q9_one_0 q9_one_1 q9_one_2 H9_one q9_mine_0 q9_mine_1 q9_mine_2 q9_mine_3 H9_mine q9_t_0 f9_t_0 q9_t_1 f9_t_1 q9_t_2 f9_t_2 q9_t_3 f9_t_3 H9_t
                      have q10_r_0 := o10_r.cell (i := 0) rfl
                      have q10_r_1 := o10_r.cell (i := 1) rfl
                      have q10_r_2 := o10_r.cell (i := 2) rfl
                      have l10_r := o10_r.lt
                      have H10_r := hide o10_r
                      clear o10_r
                      have q10_one_0 := o10_one.cell (i := 0) rfl
                      have q10_one_1 := o10_one.cell (i := 1) rfl
                      have q10_one_2 := o10_one.cell (i := 2) rfl
                      have l10_one := o10_one.lt
                      have H10_one := hide o10_one
                      clear o10_one
                      have q10_mine_0 := o10_mine.cell (i := 0) rfl
                      have q10_mine_1 := o10_mine.cell (i := 1) rfl
                      have q10_mine_2 := o10_mine.cell (i := 2) rfl
                      have q10_mine_3 := o10_mine.cell (i := 3) rfl
                      have l10_mine := o10_mine.lt
                      have H10_mine := hide o10_mine
                      clear o10_mine
                      have q10_t_0 := o10_t.cell (i := 0) rfl
                      have f10_t_0 := o10_t.free 0
                      have q10_t_1 := o10_t.cell (i := 1) rfl
                      have f10_t_1 := o10_t.free 1
                      have q10_t_2 := o10_t.cell (i := 2) rfl
                      have f10_t_2 := o10_t.free 2
                      have q10_t_3 := o10_t.cell (i := 3) rfl
                      have f10_t_3 := o10_t.free 3
                      have l10_t := o10_t.lt
                      have H10_t := hide o10_t
                      clear o10_t
                      have q10_x_0 := o10_x.cell (i := 0) rfl
                      have q10_x_1 := o10_x.cell (i := 1) rfl
                      have q10_x_2 := o10_x.cell (i := 2) rfl
                      have l10_x := o10_x.lt
                      have H10_x := hide o10_x
                      clear o10_x
                      have hy10 : w.heap.size ≤ w10.heap.size := hB10.size
                      clear hb10
                      go_wp2_with fail
                      refine (CX.out _).mono ?_
                      rintro e w11 ⟨rfl, hb11⟩
                      have hB11 : Below w.heap.size w w11 := by
                        refine Below.trans ?_ (Below.mono hb11 ?_)
                        · go_grown
                        · first | omega | (simp; done) | (simp; omega)
                      have o11_r : ObjAt w11 (w.heap.size) 47 [.int .i64 e, .int .i64 k, .int .i64 o] := ObjAt.below (ObjAt.alloc (H10_r.out) _) hb11
                      have o11_one : ObjAt w11 (w1.heap.size) 47 [.int .i64 0, .int .i64 v5, .int .i64 0] := ObjAt.below (ObjAt.alloc (H10_one.out) _) hb11
                      have o11_mine : ObjAt w11 (w2.heap.size) 73 [.int .i64 0, .int .i64 3, .int .i64 10, .int .i64 g5] := ObjAt.below (ObjAt.alloc (H10_mine.out) _) hb11
                      have o11_t : ObjAt w11 (w6.heap.size) 73 [.int .i64 e, .int .i64 a, .int .i64 tm, .int .i64 g] := ObjAt.below (ObjAt.alloc (H10_t.out) _) hb11
                      have o11_x : ObjAt w11 (w9.heap.size) 47 [.int .i64 (e + 1), .int .i64 k2, .int .i64 k] := ObjAt.below (ObjAt.alloc (H10_x.out) _) hb11
                      have o11_y : ObjAt w11 (w10.heap.size) 47 [.int .i64 (e + 2), .int .i64 k3, .int .i64 k2] := ObjAt.below (objNew (by simp)) hb11
                      clear q10_r_0 q10_r_1 q10_r_2 H10_r q10_one_0 q10_one_1 q10_one_2 H10_one q10_mine_0 q10_mine_1 q10_mine_2 q10_mine_3 H10_mine q10_t_0 f10_t_0 q10_t_1 f10_t_1 q10_t_2 f10_t_2 q10_t_3 f10_t_3 H10_t q10_x_0 q10_x_1 q10_x_2 H10_x
                      have q11_r_0 := o11_r.cell (i := 0) rfl
                      have q11_r_1 := o11_r.cell (i := 1) rfl
                      have q11_r_2 := o11_r.cell (i := 2) rfl
                      have l11_r := o11_r.lt
                      have H11_r := hide o11_r
                      clear o11_r
                      have q11_one_0 := o11_one.cell (i := 0) rfl
                      have q11_one_1 := o11_one.cell (i := 1) rfl
                      have q11_one_2 := o11_one.cell (i := 2) rfl
                      have l11_one := o11_one.lt
                      have H11_one := hide o11_one
                      clear o11_one
                      have q11_mine_0 := o11_mine.cell (i := 0) rfl
                      have q11_mine_1 := o11_mine.cell (i := 1) rfl
                      have q11_mine_2 := o11_mine.cell (i := 2) rfl
                      have q11_mine_3 := o11_mine.cell (i := 3) rfl
                      have l11_mine := o11_mine.lt
                      have H11_mine := hide o11_mine
                      clear o11_mine
                      have q11_t_0 := o11_t.cell (i := 0) rfl
                      have f11_t_0 := o11_t.free 0
                      have q11_t_1 := o11_t.cell (i := 1) rfl
                      have f11_t_1 := o11_t.free 1
                      have q11_t_2 := o11_t.cell (i := 2) rfl
                      have f11_t_2 := o11_t.free 2
                      have q11_t_3 := o11_t.cell (i := 3) rfl
                      have f11_t_3 := o11_t.free 3
                      have l11_t := o11_t.lt
                      have H11_t := hide o11_t
                      clear o11_t
                      have q11_x_0 := o11_x.cell (i := 0) rfl
                      have q11_x_1 := o11_x.cell (i := 1) rfl
                      have q11_x_2 := o11_x.cell (i := 2) rfl
                      have l11_x := o11_x.lt
                      have H11_x := hide o11_x
                      clear o11_x
                      have q11_y_0 := o11_y.cell (i := 0) rfl
                      have q11_y_1 := o11_y.cell (i := 1) rfl
                      have q11_y_2 := o11_y.cell (i := 2) rfl
                      have l11_y := o11_y.lt
                      have H11_y := hide o11_y
                      clear o11_y
                      have hy11 : w.heap.size ≤ w11.heap.size := hB11.size
                      clear hb11
                      go_wp2_with fail
                      refine (CY.out _).mono ?_
                      rintro e w12 ⟨rfl, hb12⟩
                      have hB12 : Below w.heap.size w w12 := by
                        refine Below.trans ?_ (Below.mono hb12 ?_)
                        · go_grown
                        · first | omega | (simp; done) | (simp; omega)
                      have o12_r : ObjAt w12 (w.heap.size) 47 [.int .i64 e, .int .i64 k, .int .i64 o] := ObjAt.below (H11_r.out) hb12
                      have o12_one : ObjAt w12 (w1.heap.size) 47 [.int .i64 0, .int .i64 v5, .int .i64 0] := ObjAt.below (H11_one.out) hb12
                      have o12_mine : ObjAt w12 (w2.heap.size) 73 [.int .i64 0, .int .i64 3, .int .i64 10, .int .i64 g5] := ObjAt.below (H11_mine.out) hb12
                      have o12_t : ObjAt w12 (w6.heap.size) 73 [.int .i64 e, .int .i64 a, .int .i64 tm, .int .i64 g] := ObjAt.below (H11_t.out) hb12
                      have o12_x : ObjAt w12 (w9.heap.size) 47 [.int .i64 (e + 1), .int .i64 k2, .int .i64 k] := ObjAt.below (H11_x.out) hb12
                      have o12_y : ObjAt w12 (w10.heap.size) 47 [.int .i64 (e + 2), .int .i64 k3, .int .i64 k2] := ObjAt.below (H11_y.out) hb12
                      clear q11_r_0 q11_r_1 q11_r_2 H11_r q11_one_0 q11_one_1 q11_one_2 H11_one q11_mine_0 q11_mine_1 q11_mine_2 q11_mine_3 H11_mine q11_t_0 f11_t_0 q11_t_1 f11_t_1 q11_t_2 f11_t_2 q11_t_3 f11_t_3 H11_t q11_x_0 q11_x_1 q11_x_2 H11_x q11_y_0 q11_y_1 q11_y_2 H11_y
                      have q12_r_0 := o12_r.cell (i := 0) rfl
                      have q12_r_1 := o12_r.cell (i := 1) rfl
                      have q12_r_2 := o12_r.cell (i := 2) rfl
                      have l12_r := o12_r.lt
                      have H12_r := hide o12_r
                      clear o12_r
                      have q12_one_0 := o12_one.cell (i := 0) rfl
                      have q12_one_1 := o12_one.cell (i := 1) rfl
                      have q12_one_2 := o12_one.cell (i := 2) rfl
                      have l12_one := o12_one.lt
                      have H12_one := hide o12_one
                      clear o12_one
                      have q12_mine_0 := o12_mine.cell (i := 0) rfl
                      have q12_mine_1 := o12_mine.cell (i := 1) rfl
                      have q12_mine_2 := o12_mine.cell (i := 2) rfl
                      have q12_mine_3 := o12_mine.cell (i := 3) rfl
                      have l12_mine := o12_mine.lt
                      have H12_mine := hide o12_mine
                      clear o12_mine
                      have q12_t_0 := o12_t.cell (i := 0) rfl
                      have f12_t_0 := o12_t.free 0
                      have q12_t_1 := o12_t.cell (i := 1) rfl
                      have f12_t_1 := o12_t.free 1
                      have q12_t_2 := o12_t.cell (i := 2) rfl
                      have f12_t_2 := o12_t.free 2
                      have q12_t_3 := o12_t.cell (i := 3) rfl
                      have f12_t_3 := o12_t.free 3
                      have l12_t := o12_t.lt
                      have H12_t := hide o12_t
                      clear o12_t
                      have q12_x_0 := o12_x.cell (i := 0) rfl
                      have q12_x_1 := o12_x.cell (i := 1) rfl
                      have q12_x_2 := o12_x.cell (i := 2) rfl
                      have l12_x := o12_x.lt
                      have H12_x := hide o12_x
                      clear o12_x
                      have q12_y_0 := o12_y.cell (i := 0) rfl
                      have q12_y_1 := o12_y.cell (i := 1) rfl
                      have q12_y_2 := o12_y.cell (i := 2) rfl
                      have l12_y := o12_y.lt
                      have H12_y := hide o12_y
                      clear o12_y
                      have hy12 : w.heap.size ≤ w12.heap.size := hB12.size
                      clear hb12
                      go_wp2_with fail
                      refine (error_any 9 9 _ (hE.below (B := w.heap.size) (by go_grown) hE.pos)).mono ?_
                      rintro e w13 ⟨rfl, hb13⟩
                      have hB13 : Below w.heap.size w w13 := by
                        refine Below.trans ?_ (Below.mono hb13 ?_)
                        · go_grown
                        · first | omega | (simp; done) | (simp; omega)
                      have o13_r : ObjAt w13 (w.heap.size) 47 [.int .i64 e, .int .i64 k, .int .i64 o] := ObjAt.below (H12_r.out) hb13
                      have o13_one : ObjAt w13 (w1.heap.size) 47 [.int .i64 0, .int .i64 v5, .int .i64 0] := ObjAt.below (H12_one.out) hb13
                      have o13_mine : ObjAt w13 (w2.heap.size) 73 [.int .i64 0, .int .i64 3, .int .i64 10, .int .i64 g5] := ObjAt.below (H12_mine.out) hb13
                      have o13_t : ObjAt w13 (w6.heap.size) 73 [.int .i64 e, .int .i64 a, .int .i64 tm, .int .i64 g] := ObjAt.below (H12_t.out) hb13
                      have o13_x : ObjAt w13 (w9.heap.size) 47 [.int .i64 (e + 1), .int .i64 k2, .int .i64 k] := ObjAt.below (H12_x.out) hb13
                      have o13_y : ObjAt w13 (w10.heap.size) 47 [.int .i64 (e + 2), .int .i64 k3, .int .i64 k2] := ObjAt.below (H12_y.out) hb13
                      clear q12_r_0 q12_r_1 q12_r_2 H12_r q12_one_0 q12_one_1 q12_one_2 H12_one q12_mine_0 q12_mine_1 q12_mine_2 q12_mine_3 H12_mine q12_t_0 f12_t_0 q12_t_1 f12_t_1 q12_t_2 f12_t_2 q12_t_3 f12_t_3 H12_t q12_x_0 q12_x_1 q12_x_2 H12_x q12_y_0 q12_y_1 q12_y_2 H12_y
                      have q13_r_0 := o13_r.cell (i := 0) rfl
                      have q13_r_1 := o13_r.cell (i := 1) rfl
                      have q13_r_2 := o13_r.cell (i := 2) rfl
                      have l13_r := o13_r.lt
                      have H13_r := hide o13_r
                      clear o13_r
                      have q13_one_0 := o13_one.cell (i := 0) rfl
                      have q13_one_1 := o13_one.cell (i := 1) rfl
                      have q13_one_2 := o13_one.cell (i := 2) rfl
                      have l13_one := o13_one.lt
                      have H13_one := hide o13_one
                      clear o13_one
                      have q13_mine_0 := o13_mine.cell (i := 0) rfl
                      have q13_mine_1 := o13_mine.cell (i := 1) rfl
                      have q13_mine_2 := o13_mine.cell (i := 2) rfl
                      have q13_mine_3 := o13_mine.cell (i := 3) rfl
                      have l13_mine := o13_mine.lt
                      have H13_mine := hide o13_mine
                      clear o13_mine
                      have q13_t_0 := o13_t.cell (i := 0) rfl
                      have f13_t_0 := o13_t.free 0
                      have q13_t_1 := o13_t.cell (i := 1) rfl
                      have f13_t_1 := o13_t.free 1
                      have q13_t_2 := o13_t.cell (i := 2) rfl
                      have f13_t_2 := o13_t.free 2
                      have q13_t_3 := o13_t.cell (i := 3) rfl
                      have f13_t_3 := o13_t.free 3
                      have l13_t := o13_t.lt
                      have H13_t := hide o13_t
                      clear o13_t
                      have q13_x_0 := o13_x.cell (i := 0) rfl
                      have q13_x_1 := o13_x.cell (i := 1) rfl
                      have q13_x_2 := o13_x.cell (i := 2) rfl
                      have l13_x := o13_x.lt
                      have H13_x := hide o13_x
                      clear o13_x
                      have q13_y_0 := o13_y.cell (i := 0) rfl
                      have q13_y_1 := o13_y.cell (i := 1) rfl
                      have q13_y_2 := o13_y.cell (i := 2) rfl
                      have l13_y := o13_y.lt
                      have H13_y := hide o13_y
                      clear o13_y
                      have hy13 : w.heap.size ≤ w13.heap.size := hB13.size
                      clear hb13
                      by_cases z1 : n = g
                      ·
                        have tz : (n == g) = true := by simp [z1]
                        clear z1
                        go_wp2
                        go_ret
                        exact ⟨rfl, by go_grown⟩
                      ·
                        have tz : (n == g) = false := beq_eq_false_iff_ne.2 z1
                        by_cases z2 : n < 0
                        ·
                          clear z1
                          go_wp2
                          go_ret
                          exact ⟨rfl, by go_grown⟩
                        ·
                          have z2' : 0 ≤ n := by omega
                          by_cases z3 : 999982 < n
                          ·
                            clear z1 z2
                            go_wp2
                            go_ret
                            exact ⟨rfl, by go_grown⟩
                          ·
                            have z3' : n ≤ 999982 := by omega
                            have CN : Hid (∀ W, Calls Tryd.prog 40 #[.agg #[.int .i64 e, .int .i64 k, .int .i64 o], .agg #[.int .i64 e, .int .i64 a, .int .i64 tm, .int .i64 n], .int .i64 a, .int .i64 now, .int .i64 li] W fun r w' => r = .returned (.iface 94 (.int .i64 8)) ∧ Below W.heap.size W w') := tokenCheck_eq (HQ3.out hn.out hl.out (inB_true.2 ⟨z2', by omega⟩) z1)
                            clear z1 z2 z3
                            go_wp2_with fail
                            refine (CN.out _).mono ?_
                            rintro e w14 ⟨rfl, hb14⟩
                            have hB14 : Below w.heap.size w w14 := by
                              refine Below.trans ?_ (Below.mono hb14 ?_)
                              · go_grown
                              · first | omega | (simp; done) | (simp; omega)
                            have o14_r : ObjAt w14 (w.heap.size) 47 [.int .i64 e, .int .i64 k, .int .i64 o] := ObjAt.below (ObjAt.setOther (H13_r.out) (by simp; omega) _) hb14
                            have o14_one : ObjAt w14 (w1.heap.size) 47 [.int .i64 0, .int .i64 v5, .int .i64 0] := ObjAt.below (ObjAt.setOther (H13_one.out) (by simp; omega) _) hb14
                            have o14_mine : ObjAt w14 (w2.heap.size) 73 [.int .i64 0, .int .i64 3, .int .i64 10, .int .i64 g5] := ObjAt.below (ObjAt.setOther (H13_mine.out) (by simp; omega) _) hb14
                            have o14_t : ObjAt w14 (w6.heap.size) 73 [.int .i64 e, .int .i64 a, .int .i64 tm, .int .i64 n] := ObjAt.below (ObjAt.set (H13_t.out) 3 _) hb14
                            have o14_x : ObjAt w14 (w9.heap.size) 47 [.int .i64 (e + 1), .int .i64 k2, .int .i64 k] := ObjAt.below (ObjAt.setOther (H13_x.out) (by simp; omega) _) hb14
                            have o14_y : ObjAt w14 (w10.heap.size) 47 [.int .i64 (e + 2), .int .i64 k3, .int .i64 k2] := ObjAt.below (ObjAt.setOther (H13_y.out) (by simp; omega) _) hb14
                            clear q13_r_0 q13_r_1 q13_r_2 H13_r q13_one_0 q13_one_1 q13_one_2 H13_one q13_mine_0 q13_mine_1 q13_mine_2 q13_mine_3 H13_mine q13_t_0 f13_t_0 q13_t_1 f13_t_1 q13_t_2 f13_t_2 q13_t_3 f13_t_3 H13_t q13_x_0 q13_x_1 q13_x_2 H13_x q13_y_0 q13_y_1 q13_y_2 H13_y
                            have q14_r_0 := o14_r.cell (i := 0) rfl
                            have q14_r_1 := o14_r.cell (i := 1) rfl
                            have q14_r_2 := o14_r.cell (i := 2) rfl
                            have l14_r := o14_r.lt
                            have H14_r := hide o14_r
                            clear o14_r
                            have q14_one_0 := o14_one.cell (i := 0) rfl
                            have q14_one_1 := o14_one.cell (i := 1) rfl
                            have q14_one_2 := o14_one.cell (i := 2) rfl
                            have l14_one := o14_one.lt
                            have H14_one := hide o14_one
                            clear o14_one
                            have q14_mine_0 := o14_mine.cell (i := 0) rfl
                            have q14_mine_1 := o14_mine.cell (i := 1) rfl
                            have q14_mine_2 := o14_mine.cell (i := 2) rfl
                            have q14_mine_3 := o14_mine.cell (i := 3) rfl
                            have l14_mine := o14_mine.lt
                            have H14_mine := hide o14_mine
                            clear o14_mine
                            have q14_t_0 := o14_t.cell (i := 0) rfl
                            have f14_t_0 := o14_t.free 0
                            have q14_t_1 := o14_t.cell (i := 1) rfl
                            have f14_t_1 := o14_t.free 1
                            have q14_t_2 := o14_t.cell (i := 2) rfl
                            have f14_t_2 := o14_t.free 2
                            have q14_t_3 := o14_t.cell (i := 3) rfl
                            have f14_t_3 := o14_t.free 3
                            have l14_t := o14_t.lt
                            have H14_t := hide o14_t
                            clear o14_t
                            have q14_x_0 := o14_x.cell (i := 0) rfl
                            have q14_x_1 := o14_x.cell (i := 1) rfl
                            have q14_x_2 := o14_x.cell (i := 2) rfl
                            have l14_x := o14_x.lt
                            have H14_x := hide o14_x
                            clear o14_x
                            have q14_y_0 := o14_y.cell (i := 0) rfl
                            have q14_y_1 := o14_y.cell (i := 1) rfl
                            have q14_y_2 := o14_y.cell (i := 2) rfl
                            have l14_y := o14_y.lt
                            have H14_y := hide o14_y
                            clear o14_y
                            have hy14 : w.heap.size ≤ w14.heap.size := hB14.size
                            clear hb14
                            go_wp2_with fail
                            refine (error_any 8 8 _ (hE.below (B := w.heap.size) (by go_grown) hE.pos)).mono ?_
                            rintro e w15 ⟨rfl, hb15⟩
                            have hB15 : Below w.heap.size w w15 := by
                              refine Below.trans ?_ (Below.mono hb15 ?_)
                              · go_grown
                              · first | omega | (simp; done) | (simp; omega)
                            have o15_r : ObjAt w15 (w.heap.size) 47 [.int .i64 e, .int .i64 k, .int .i64 o] := ObjAt.below (H14_r.out) hb15
                            have o15_one : ObjAt w15 (w1.heap.size) 47 [.int .i64 0, .int .i64 v5, .int .i64 0] := ObjAt.below (H14_one.out) hb15
                            have o15_mine : ObjAt w15 (w2.heap.size) 73 [.int .i64 0, .int .i64 3, .int .i64 10, .int .i64 g5] := ObjAt.below (H14_mine.out) hb15
                            have o15_t : ObjAt w15 (w6.heap.size) 73 [.int .i64 e, .int .i64 a, .int .i64 tm, .int .i64 n] := ObjAt.below (H14_t.out) hb15
                            have o15_x : ObjAt w15 (w9.heap.size) 47 [.int .i64 (e + 1), .int .i64 k2, .int .i64 k] := ObjAt.below (H14_x.out) hb15
                            have o15_y : ObjAt w15 (w10.heap.size) 47 [.int .i64 (e + 2), .int .i64 k3, .int .i64 k2] := ObjAt.below (H14_y.out) hb15
                            clear q14_r_0 q14_r_1 q14_r_2 H14_r q14_one_0 q14_one_1 q14_one_2 H14_one q14_mine_0 q14_mine_1 q14_mine_2 q14_mine_3 H14_mine q14_t_0 f14_t_0 q14_t_1 f14_t_1 q14_t_2 f14_t_2 q14_t_3 f14_t_3 H14_t q14_x_0 q14_x_1 q14_x_2 H14_x q14_y_0 q14_y_1 q14_y_2 H14_y
                            have q15_r_0 := o15_r.cell (i := 0) rfl
                            have q15_r_1 := o15_r.cell (i := 1) rfl
                            have q15_r_2 := o15_r.cell (i := 2) rfl
                            have l15_r := o15_r.lt
                            have H15_r := hide o15_r
                            clear o15_r
                            have q15_one_0 := o15_one.cell (i := 0) rfl
                            have q15_one_1 := o15_one.cell (i := 1) rfl
                            have q15_one_2 := o15_one.cell (i := 2) rfl
                            have l15_one := o15_one.lt
                            have H15_one := hide o15_one
                            clear o15_one
                            have q15_mine_0 := o15_mine.cell (i := 0) rfl
                            have q15_mine_1 := o15_mine.cell (i := 1) rfl
                            have q15_mine_2 := o15_mine.cell (i := 2) rfl
                            have q15_mine_3 := o15_mine.cell (i := 3) rfl
                            have l15_mine := o15_mine.lt
                            have H15_mine := hide o15_mine
                            clear o15_mine
                            have q15_t_0 := o15_t.cell (i := 0) rfl
                            have f15_t_0 := o15_t.free 0
                            have q15_t_1 := o15_t.cell (i := 1) rfl
                            have f15_t_1 := o15_t.free 1
                            have q15_t_2 := o15_t.cell (i := 2) rfl
                            have f15_t_2 := o15_t.free 2
                            have q15_t_3 := o15_t.cell (i := 3) rfl
                            have f15_t_3 := o15_t.free 3
                            have l15_t := o15_t.lt
                            have H15_t := hide o15_t
                            clear o15_t
                            have q15_x_0 := o15_x.cell (i := 0) rfl
                            have q15_x_1 := o15_x.cell (i := 1) rfl
                            have q15_x_2 := o15_x.cell (i := 2) rfl
                            have l15_x := o15_x.lt
                            have H15_x := hide o15_x
                            clear o15_x
                            have q15_y_0 := o15_y.cell (i := 0) rfl
                            have q15_y_1 := o15_y.cell (i := 1) rfl
                            have q15_y_2 := o15_y.cell (i := 2) rfl
                            have l15_y := o15_y.lt
                            have H15_y := hide o15_y
                            clear o15_y
                            have hy15 : w.heap.size ≤ w15.heap.size := hB15.size
                            clear hb15
                            go_wp2
                            go_ret
                            exact ⟨rfl, by go_grown⟩
                ·
                  have tw : (ot != a) = true := bne_iff_ne.2 w1
                  have toc : (oc == 0) = false := beq_eq_false_iff_ne.2 (hoe w1)
                  clear w1 hoe
                  by_cases f1 : e = 100
                  ·
                    have TN := hide (HT4.out f1)
                    subst f1
                    go_wp2_with fail
                    refine (TN.out _).mono ?_
                    rintro e w9 ⟨rfl, hb9⟩
                    have hB9 : Below w.heap.size w w9 := by
                      refine Below.trans ?_ (Below.mono hb9 ?_)
                      · go_grown
                      · first | omega | (simp; done) | (simp; omega)
                    have o9_r : ObjAt w9 (w.heap.size) 47 [.int .i64 100, .int .i64 k, .int .i64 o] := ObjAt.below (H8_r.out) hb9
                    have o9_one : ObjAt w9 (w1.heap.size) 47 [.int .i64 0, .int .i64 v5, .int .i64 0] := ObjAt.below (H8_one.out) hb9
                    have o9_mine : ObjAt w9 (w2.heap.size) 73 [.int .i64 0, .int .i64 3, .int .i64 10, .int .i64 g5] := ObjAt.below (H8_mine.out) hb9
                    have o9_t : ObjAt w9 (w6.heap.size) 73 [.int .i64 100, .int .i64 a, .int .i64 tm, .int .i64 g] := ObjAt.below (H8_t.out) hb9
                    clear q8_r_0 q8_r_1 q8_r_2 H8_r q8_one_0 q8_one_1 q8_one_2 H8_one q8_mine_0 q8_mine_1 q8_mine_2 q8_mine_3 H8_mine q8_t_0 f8_t_0 q8_t_1 f8_t_1 q8_t_2 f8_t_2 q8_t_3 f8_t_3 H8_t
                    have q9_r_0 := o9_r.cell (i := 0) rfl
                    have q9_r_1 := o9_r.cell (i := 1) rfl
                    have q9_r_2 := o9_r.cell (i := 2) rfl
                    have l9_r := o9_r.lt
                    have H9_r := hide o9_r
                    clear o9_r
                    have q9_one_0 := o9_one.cell (i := 0) rfl
                    have q9_one_1 := o9_one.cell (i := 1) rfl
                    have q9_one_2 := o9_one.cell (i := 2) rfl
                    have l9_one := o9_one.lt
                    have H9_one := hide o9_one
                    clear o9_one
                    have q9_mine_0 := o9_mine.cell (i := 0) rfl
                    have q9_mine_1 := o9_mine.cell (i := 1) rfl
                    have q9_mine_2 := o9_mine.cell (i := 2) rfl
                    have q9_mine_3 := o9_mine.cell (i := 3) rfl
                    have l9_mine := o9_mine.lt
                    have H9_mine := hide o9_mine
                    clear o9_mine
                    have q9_t_0 := o9_t.cell (i := 0) rfl
                    have f9_t_0 := o9_t.free 0
                    have q9_t_1 := o9_t.cell (i := 1) rfl
                    have f9_t_1 := o9_t.free 1
                    have q9_t_2 := o9_t.cell (i := 2) rfl
                    have f9_t_2 := o9_t.free 2
                    have q9_t_3 := o9_t.cell (i := 3) rfl
                    have f9_t_3 := o9_t.free 3
                    have l9_t := o9_t.lt
                    have H9_t := hide o9_t
                    clear o9_t
                    have hy9 : w.heap.size ≤ w9.heap.size := hB9.size
                    clear hb9
                    by_cases z1 : n = g
                    ·
                      have tz : (n == g) = true := by simp [z1]
                      clear z1
                      go_wp2
                      go_ret
                      exact ⟨rfl, by go_grown⟩
                    ·
                      have tz : (n == g) = false := beq_eq_false_iff_ne.2 z1
                      by_cases z2 : n < 0
                      ·
                        clear z1
                        go_wp2
                        go_ret
                        exact ⟨rfl, by go_grown⟩
                      ·
                        have z2' : 0 ≤ n := by omega
                        by_cases z3 : 999982 < n
                        ·
                          clear z1 z2
                          go_wp2
                          go_ret
                          exact ⟨rfl, by go_grown⟩
                        ·
                          have z3' : n ≤ 999982 := by omega
                          have CN : Hid (∀ W, Calls Tryd.prog 40 #[.agg #[.int .i64 100, .int .i64 k, .int .i64 o], .agg #[.int .i64 100, .int .i64 a, .int .i64 tm, .int .i64 n], .int .i64 a, .int .i64 now, .int .i64 li] W fun r w' => r = .returned (.iface 94 (.int .i64 8)) ∧ Below W.heap.size W w') := tokenCheck_eq (HQ3.out hn.out hl.out (inB_true.2 ⟨z2', by omega⟩) z1)
                          clear z1 z2 z3
                          go_wp2_with fail
                          refine (CN.out _).mono ?_
                          rintro e w10 ⟨rfl, hb10⟩
                          have hB10 : Below w.heap.size w w10 := by
                            refine Below.trans ?_ (Below.mono hb10 ?_)
                            · go_grown
                            · first | omega | (simp; done) | (simp; omega)
                          have o10_r : ObjAt w10 (w.heap.size) 47 [.int .i64 100, .int .i64 k, .int .i64 o] := ObjAt.below (ObjAt.alloc (ObjAt.setOther (H9_r.out) (by simp; omega) _) _) hb10
                          have o10_one : ObjAt w10 (w1.heap.size) 47 [.int .i64 0, .int .i64 v5, .int .i64 0] := ObjAt.below (ObjAt.alloc (ObjAt.setOther (H9_one.out) (by simp; omega) _) _) hb10
                          have o10_mine : ObjAt w10 (w2.heap.size) 73 [.int .i64 0, .int .i64 3, .int .i64 10, .int .i64 g5] := ObjAt.below (ObjAt.alloc (ObjAt.setOther (H9_mine.out) (by simp; omega) _) _) hb10
                          have o10_t : ObjAt w10 (w6.heap.size) 73 [.int .i64 100, .int .i64 a, .int .i64 tm, .int .i64 n] := ObjAt.below (ObjAt.alloc (ObjAt.set (H9_t.out) 3 _) _) hb10
                          have o10_x : ObjAt w10 (w9.heap.size) 47 [.int .i64 0, .int .i64 0, .int .i64 0] := ObjAt.below (objNew (by simp)) hb10
                          clear q9_r_0 q9_r_1 q9_r_2 H9_r q9_one_0 q9_one_1 q9_one_2 H9_one q9_mine_0 q9_mine_1 q9_mine_2 q9_mine_3 H9_mine q9_t_0 f9_t_0 q9_t_1 f9_t_1 q9_t_2 f9_t_2 q9_t_3 f9_t_3 H9_t
                          have q10_r_0 := o10_r.cell (i := 0) rfl
                          have q10_r_1 := o10_r.cell (i := 1) rfl
                          have q10_r_2 := o10_r.cell (i := 2) rfl
                          have l10_r := o10_r.lt
                          have H10_r := hide o10_r
                          clear o10_r
                          have q10_one_0 := o10_one.cell (i := 0) rfl
                          have q10_one_1 := o10_one.cell (i := 1) rfl
                          have q10_one_2 := o10_one.cell (i := 2) rfl
                          have l10_one := o10_one.lt
                          have H10_one := hide o10_one
                          clear o10_one
                          have q10_mine_0 := o10_mine.cell (i := 0) rfl
                          have q10_mine_1 := o10_mine.cell (i := 1) rfl
                          have q10_mine_2 := o10_mine.cell (i := 2) rfl
                          have q10_mine_3 := o10_mine.cell (i := 3) rfl
                          have l10_mine := o10_mine.lt
                          have H10_mine := hide o10_mine
                          clear o10_mine
                          have q10_t_0 := o10_t.cell (i := 0) rfl
                          have f10_t_0 := o10_t.free 0
                          have q10_t_1 := o10_t.cell (i := 1) rfl
                          have f10_t_1 := o10_t.free 1
                          have q10_t_2 := o10_t.cell (i := 2) rfl
                          have f10_t_2 := o10_t.free 2
                          have q10_t_3 := o10_t.cell (i := 3) rfl
                          have f10_t_3 := o10_t.free 3
                          have l10_t := o10_t.lt
                          have H10_t := hide o10_t
                          clear o10_t
                          have q10_x_0 := o10_x.cell (i := 0) rfl
                          have q10_x_1 := o10_x.cell (i := 1) rfl
                          have q10_x_2 := o10_x.cell (i := 2) rfl
                          have l10_x := o10_x.lt
                          have H10_x := hide o10_x
                          clear o10_x
                          have hy10 : w.heap.size ≤ w10.heap.size := hB10.size
                          clear hb10
                          go_wp2_with fail
                          refine (error_any 8 8 _ (hE.below (B := w.heap.size) (by go_grown) hE.pos)).mono ?_
                          rintro e w11 ⟨rfl, hb11⟩
                          have hB11 : Below w.heap.size w w11 := by
                            refine Below.trans ?_ (Below.mono hb11 ?_)
                            · go_grown
                            · first | omega | (simp; done) | (simp; omega)
                          have o11_r : ObjAt w11 (w.heap.size) 47 [.int .i64 100, .int .i64 k, .int .i64 o] := ObjAt.below (H10_r.out) hb11
                          have o11_one : ObjAt w11 (w1.heap.size) 47 [.int .i64 0, .int .i64 v5, .int .i64 0] := ObjAt.below (H10_one.out) hb11
                          have o11_mine : ObjAt w11 (w2.heap.size) 73 [.int .i64 0, .int .i64 3, .int .i64 10, .int .i64 g5] := ObjAt.below (H10_mine.out) hb11
                          have o11_t : ObjAt w11 (w6.heap.size) 73 [.int .i64 100, .int .i64 a, .int .i64 tm, .int .i64 n] := ObjAt.below (H10_t.out) hb11
                          have o11_x : ObjAt w11 (w9.heap.size) 47 [.int .i64 0, .int .i64 0, .int .i64 0] := ObjAt.below (H10_x.out) hb11
                          clear q10_r_0 q10_r_1 q10_r_2 H10_r q10_one_0 q10_one_1 q10_one_2 H10_one q10_mine_0 q10_mine_1 q10_mine_2 q10_mine_3 H10_mine q10_t_0 f10_t_0 q10_t_1 f10_t_1 q10_t_2 f10_t_2 q10_t_3 f10_t_3 H10_t q10_x_0 q10_x_1 q10_x_2 H10_x
                          have q11_r_0 := o11_r.cell (i := 0) rfl
                          have q11_r_1 := o11_r.cell (i := 1) rfl
                          have q11_r_2 := o11_r.cell (i := 2) rfl
                          have l11_r := o11_r.lt
                          have H11_r := hide o11_r
                          clear o11_r
                          have q11_one_0 := o11_one.cell (i := 0) rfl
                          have q11_one_1 := o11_one.cell (i := 1) rfl
                          have q11_one_2 := o11_one.cell (i := 2) rfl
                          have l11_one := o11_one.lt
                          have H11_one := hide o11_one
                          clear o11_one
                          have q11_mine_0 := o11_mine.cell (i := 0) rfl
                          have q11_mine_1 := o11_mine.cell (i := 1) rfl
                          have q11_mine_2 := o11_mine.cell (i := 2) rfl
                          have q11_mine_3 := o11_mine.cell (i := 3) rfl
                          have l11_mine := o11_mine.lt
                          have H11_mine := hide o11_mine
                          clear o11_mine
                          have q11_t_0 := o11_t.cell (i := 0) rfl
                          have f11_t_0 := o11_t.free 0
                          have q11_t_1 := o11_t.cell (i := 1) rfl
                          have f11_t_1 := o11_t.free 1
                          have q11_t_2 := o11_t.cell (i := 2) rfl
                          have f11_t_2 := o11_t.free 2
                          have q11_t_3 := o11_t.cell (i := 3) rfl
                          have f11_t_3 := o11_t.free 3
                          have l11_t := o11_t.lt
                          have H11_t := hide o11_t
                          clear o11_t
                          have q11_x_0 := o11_x.cell (i := 0) rfl
                          have q11_x_1 := o11_x.cell (i := 1) rfl
                          have q11_x_2 := o11_x.cell (i := 2) rfl
                          have l11_x := o11_x.lt
                          have H11_x := hide o11_x
                          clear o11_x
                          have hy11 : w.heap.size ≤ w11.heap.size := hB11.size
                          clear hb11
                          go_wp2
                          go_ret
                          exact ⟨rfl, by go_grown⟩
                  ·
                    by_cases f2 : e = 99
                    ·
                      have TN := hide (HT1.out (by omega))
                      have TM := hide (HT3.out f2)
                      have hx := HQ1.out (by omega) hn.out hl.out
                      rw [if_neg (by omega)] at hx
                      subst f2
                      obtain ⟨k2, hk2⟩ : ∃ k2, k2 = tagOf k [100] := ⟨_, rfl⟩
                      rw [show (99 : Int) + 1 = 100 from rfl] at TN hx
                      rw [← hk2] at TN TM hx
                      have CX : Hid (∀ W, Calls Tryd.prog 40 #[.agg #[.int .i64 100, .int .i64 k2, .int .i64 k], .agg #[.int .i64 99, .int .i64 a, .int .i64 tm, .int .i64 g], .int .i64 a, .int .i64 now, .int .i64 li] W fun r w' => r = .returned (.nilIface) ∧ Below W.heap.size W w') := tokenCheck_eq hx
                      clear hx hk2 f1
                      go_wp2_with fail
                      refine (TN.out _).mono ?_
                      rintro e w9 ⟨rfl, hb9⟩
                      have hB9 : Below w.heap.size w w9 := by
                        refine Below.trans ?_ (Below.mono hb9 ?_)
                        · go_grown
                        · first | omega | (simp; done) | (simp; omega)
                      have o9_r : ObjAt w9 (w.heap.size) 47 [.int .i64 99, .int .i64 k, .int .i64 o] := ObjAt.below (H8_r.out) hb9
                      have o9_one : ObjAt w9 (w1.heap.size) 47 [.int .i64 0, .int .i64 v5, .int .i64 0] := ObjAt.below (H8_one.out) hb9
                      have o9_mine : ObjAt w9 (w2.heap.size) 73 [.int .i64 0, .int .i64 3, .int .i64 10, .int .i64 g5] := ObjAt.below (H8_mine.out) hb9
                      have o9_t : ObjAt w9 (w6.heap.size) 73 [.int .i64 99, .int .i64 a, .int .i64 tm, .int .i64 g] := ObjAt.below (H8_t.out) hb9
                      clear q8_r_0 q8_r_1 q8_r_2 H8_r q8_one_0 q8_one_1 q8_one_2 H8_one q8_mine_0 q8_mine_1 q8_mine_2 q8_mine_3 H8_mine q8_t_0 f8_t_0 q8_t_1 f8_t_1 q8_t_2 f8_t_2 q8_t_3 f8_t_3 H8_t
                      have q9_r_0 := o9_r.cell (i := 0) rfl
                      have q9_r_1 := o9_r.cell (i := 1) rfl
                      have q9_r_2 := o9_r.cell (i := 2) rfl
                      have l9_r := o9_r.lt
                      have H9_r := hide o9_r
                      clear o9_r
                      have q9_one_0 := o9_one.cell (i := 0) rfl
                      have q9_one_1 := o9_one.cell (i := 1) rfl
                      have q9_one_2 := o9_one.cell (i := 2) rfl
                      have l9_one := o9_one.lt
                      have H9_one := hide o9_one
                      clear o9_one
                      have q9_mine_0 := o9_mine.cell (i := 0) rfl
                      have q9_mine_1 := o9_mine.cell (i := 1) rfl
                      have q9_mine_2 := o9_mine.cell (i := 2) rfl
                      have q9_mine_3 := o9_mine.cell (i := 3) rfl
                      have l9_mine := o9_mine.lt
                      have H9_mine := hide o9_mine
                      clear o9_mine
                      have q9_t_0 := o9_t.cell (i := 0) rfl
                      have f9_t_0 := o9_t.free 0
                      have q9_t_1 := o9_t.cell (i := 1) rfl
                      have f9_t_1 := o9_t.free 1
                      have q9_t_2 := o9_t.cell (i := 2) rfl
                      have f9_t_2 := o9_t.free 2
                      have q9_t_3 := o9_t.cell (i := 3) rfl
                      have f9_t_3 := o9_t.free 3
                      have l9_t := o9_t.lt
                      have H9_t := hide o9_t
                      clear o9_t
                      have hy9 : w.heap.size ≤ w9.heap.size := hB9.size
                      clear hb9
                      go_wp2_with fail
                      refine (TM.out _).mono ?_
                      rintro e w10 ⟨rfl, hb10⟩
                      have hB10 : Below w.heap.size w w10 := by
                        refine Below.trans ?_ (Below.mono hb10 ?_)
                        · go_grown
                        · first | omega | (simp; done) | (simp; omega)
                      have o10_r : ObjAt w10 (w.heap.size) 47 [.int .i64 99, .int .i64 k, .int .i64 o] := ObjAt.below (ObjAt.alloc (H9_r.out) _) hb10
                      have o10_one : ObjAt w10 (w1.heap.size) 47 [.int .i64 0, .int .i64 v5, .int .i64 0] := ObjAt.below (ObjAt.alloc (H9_one.out) _) hb10
                      have o10_mine : ObjAt w10 (w2.heap.size) 73 [.int .i64 0, .int .i64 3, .int .i64 10, .int .i64 g5] := ObjAt.below (ObjAt.alloc (H9_mine.out) _) hb10
                      have o10_t : ObjAt w10 (w6.heap.size) 73 [.int .i64 99, .int .i64 a, .int .i64 tm, .int .i64 g] := ObjAt.below (ObjAt.alloc (H9_t.out) _) hb10
                      have o10_x : ObjAt w10 (w9.heap.size) 47 [.int .i64 100, .int .i64 k2, .int .i64 k] := ObjAt.below (objNew (by simp)) hb10
                      clear q9_r_0 q9_r_1 q9_r_2 H9_r q9_one_0 q9_one_1 q9_one_2 H9_one q9_mine_0 q9_mine_1 q9_mine_2 q9_mine_3 H9_mine q9_t_0 f9_t_0 q9_t_1 f9_t_1 q9_t_2 f9_t_2 q9_t_3 f9_t_3 H9_t
                      have q10_r_0 := o10_r.cell (i := 0) rfl
                      have q10_r_1 := o10_r.cell (i := 1) rfl
                      have q10_r_2 := o10_r.cell (i := 2) rfl
                      have l10_r := o10_r.lt
                      have H10_r := hide o10_r
                      clear o10_r
                      have q10_one_0 := o10_one.cell (i := 0) rfl
                      have q10_one_1 := o10_one.cell (i := 1) rfl
                      have q10_one_2 := o10_one.cell (i := 2) rfl
                      have l10_one := o10_one.lt
                      have H10_one := hide o10_one
                      clear o10_one
                      have q10_mine_0 := o10_mine.cell (i := 0) rfl
                      have q10_mine_1 := o10_mine.cell (i := 1) rfl
                      have q10_mine_2 := o10_mine.cell (i := 2) rfl
                      have q10_mine_3 := o10_mine.cell (i := 3) rfl
                      have l10_mine := o10_mine.lt
                      have H10_mine := hide o10_mine
                      clear o10_mine
                      have q10_t_0 := o10_t.cell (i := 0) rfl
                      have f10_t_0 := o10_t.free 0
                      have q10_t_1 := o10_t.cell (i := 1) rfl
                      have f10_t_1 := o10_t.free 1
                      have q10_t_2 := o10_t.cell (i := 2) rfl
                      have f10_t_2 := o10_t.free 2
                      have q10_t_3 := o10_t.cell (i := 3) rfl
                      have f10_t_3 := o10_t.free 3
                      have l10_t := o10_t.lt
                      have H10_t := hide o10_t
                      clear o10_t
                      have q10_x_0 := o10_x.cell (i := 0) rfl
                      have q10_x_1 := o10_x.cell (i := 1) rfl
                      have q10_x_2 := o10_x.cell (i := 2) rfl
                      have l10_x := o10_x.lt
                      have H10_x := hide o10_x
                      clear o10_x
                      have hy10 : w.heap.size ≤ w10.heap.size := hB10.size
                      clear hb10
                      go_wp2_with fail
                      refine (CX.out _).mono ?_
                      rintro e w11 ⟨rfl, hb11⟩
                      have hB11 : Below w.heap.size w w11 := by
                        refine Below.trans ?_ (Below.mono hb11 ?_)
                        · go_grown
                        · first | omega | (simp; done) | (simp; omega)
                      have o11_r : ObjAt w11 (w.heap.size) 47 [.int .i64 99, .int .i64 k, .int .i64 o] := ObjAt.below (ObjAt.alloc (H10_r.out) _) hb11
                      have o11_one : ObjAt w11 (w1.heap.size) 47 [.int .i64 0, .int .i64 v5, .int .i64 0] := ObjAt.below (ObjAt.alloc (H10_one.out) _) hb11
                      have o11_mine : ObjAt w11 (w2.heap.size) 73 [.int .i64 0, .int .i64 3, .int .i64 10, .int .i64 g5] := ObjAt.below (ObjAt.alloc (H10_mine.out) _) hb11
                      have o11_t : ObjAt w11 (w6.heap.size) 73 [.int .i64 99, .int .i64 a, .int .i64 tm, .int .i64 g] := ObjAt.below (ObjAt.alloc (H10_t.out) _) hb11
                      have o11_x : ObjAt w11 (w9.heap.size) 47 [.int .i64 100, .int .i64 k2, .int .i64 k] := ObjAt.below (ObjAt.alloc (H10_x.out) _) hb11
                      have o11_y : ObjAt w11 (w10.heap.size) 47 [.int .i64 0, .int .i64 0, .int .i64 0] := ObjAt.below (objNew (by simp)) hb11
                      clear q10_r_0 q10_r_1 q10_r_2 H10_r q10_one_0 q10_one_1 q10_one_2 H10_one q10_mine_0 q10_mine_1 q10_mine_2 q10_mine_3 H10_mine q10_t_0 f10_t_0 q10_t_1 f10_t_1 q10_t_2 f10_t_2 q10_t_3 f10_t_3 H10_t q10_x_0 q10_x_1 q10_x_2 H10_x
                      have q11_r_0 := o11_r.cell (i := 0) rfl
                      have q11_r_1 := o11_r.cell (i := 1) rfl
                      have q11_r_2 := o11_r.cell (i := 2) rfl
                      have l11_r := o11_r.lt
                      have H11_r := hide o11_r
                      clear o11_r
                      have q11_one_0 := o11_one.cell (i := 0) rfl
                      have q11_one_1 := o11_one.cell (i := 1) rfl
                      have q11_one_2 := o11_one.cell (i := 2) rfl
                      have l11_one := o11_one.lt
                      have H11_one := hide o11_one
                      clear o11_one
                      have q11_mine_0 := o11_mine.cell (i := 0) rfl
                      have q11_mine_1 := o11_mine.cell (i := 1) rfl
                      have q11_mine_2 := o11_mine.cell (i := 2) rfl
                      have q11_mine_3 := o11_mine.cell (i := 3) rfl
                      have l11_mine := o11_mine.lt
                      have H11_mine := hide o11_mine
                      clear o11_mine
                      have q11_t_0 := o11_t.cell (i := 0) rfl
                      have f11_t_0 := o11_t.free 0
                      have q11_t_1 := o11_t.cell (i := 1) rfl
                      have f11_t_1 := o11_t.free 1
                      have q11_t_2 := o11_t.cell (i := 2) rfl
                      have f11_t_2 := o11_t.free 2
                      have q11_t_3 := o11_t.cell (i := 3) rfl
                      have f11_t_3 := o11_t.free 3
                      have l11_t := o11_t.lt
                      have H11_t := hide o11_t
                      clear o11_t
                      have q11_x_0 := o11_x.cell (i := 0) rfl
                      have q11_x_1 := o11_x.cell (i := 1) rfl
                      have q11_x_2 := o11_x.cell (i := 2) rfl
                      have l11_x := o11_x.lt
                      have H11_x := hide o11_x
                      clear o11_x
                      have q11_y_0 := o11_y.cell (i := 0) rfl
                      have q11_y_1 := o11_y.cell (i := 1) rfl
                      have q11_y_2 := o11_y.cell (i := 2) rfl
                      have l11_y := o11_y.lt
                      have H11_y := hide o11_y
                      clear o11_y
                      have hy11 : w.heap.size ≤ w11.heap.size := hB11.size
                      clear hb11
                      by_cases z1 : n = g
                      ·
                        have tz : (n == g) = true := by simp [z1]
                        clear z1
                        go_wp2
                        go_ret
                        exact ⟨rfl, by go_grown⟩
                      ·
                        have tz : (n == g) = false := beq_eq_false_iff_ne.2 z1
                        by_cases z2 : n < 0
                        ·
                          clear z1
                          go_wp2
                          go_ret
                          exact ⟨rfl, by go_grown⟩
                        ·
                          have z2' : 0 ≤ n := by omega
                          by_cases z3 : 999982 < n
                          ·
                            clear z1 z2
                            go_wp2
                            go_ret
                            exact ⟨rfl, by go_grown⟩
                          ·
                            have z3' : n ≤ 999982 := by omega
                            have CN : Hid (∀ W, Calls Tryd.prog 40 #[.agg #[.int .i64 99, .int .i64 k, .int .i64 o], .agg #[.int .i64 99, .int .i64 a, .int .i64 tm, .int .i64 n], .int .i64 a, .int .i64 now, .int .i64 li] W fun r w' => r = .returned (.iface 94 (.int .i64 8)) ∧ Below W.heap.size W w') := tokenCheck_eq (HQ3.out hn.out hl.out (inB_true.2 ⟨z2', by omega⟩) z1)
                            clear z1 z2 z3
                            go_wp2_with fail
                            refine (CN.out _).mono ?_
                            rintro e w12 ⟨rfl, hb12⟩
                            have hB12 : Below w.heap.size w w12 := by
                              refine Below.trans ?_ (Below.mono hb12 ?_)
                              · go_grown
                              · first | omega | (simp; done) | (simp; omega)
                            have o12_r : ObjAt w12 (w.heap.size) 47 [.int .i64 99, .int .i64 k, .int .i64 o] := ObjAt.below (ObjAt.setOther (H11_r.out) (by simp; omega) _) hb12
                            have o12_one : ObjAt w12 (w1.heap.size) 47 [.int .i64 0, .int .i64 v5, .int .i64 0] := ObjAt.below (ObjAt.setOther (H11_one.out) (by simp; omega) _) hb12
                            have o12_mine : ObjAt w12 (w2.heap.size) 73 [.int .i64 0, .int .i64 3, .int .i64 10, .int .i64 g5] := ObjAt.below (ObjAt.setOther (H11_mine.out) (by simp; omega) _) hb12
                            have o12_t : ObjAt w12 (w6.heap.size) 73 [.int .i64 99, .int .i64 a, .int .i64 tm, .int .i64 n] := ObjAt.below (ObjAt.set (H11_t.out) 3 _) hb12
                            have o12_x : ObjAt w12 (w9.heap.size) 47 [.int .i64 100, .int .i64 k2, .int .i64 k] := ObjAt.below (ObjAt.setOther (H11_x.out) (by simp; omega) _) hb12
                            have o12_y : ObjAt w12 (w10.heap.size) 47 [.int .i64 0, .int .i64 0, .int .i64 0] := ObjAt.below (ObjAt.setOther (H11_y.out) (by simp; omega) _) hb12
                            clear q11_r_0 q11_r_1 q11_r_2 H11_r q11_one_0 q11_one_1 q11_one_2 H11_one q11_mine_0 q11_mine_1 q11_mine_2 q11_mine_3 H11_mine q11_t_0 f11_t_0 q11_t_1 f11_t_1 q11_t_2 f11_t_2 q11_t_3 f11_t_3 H11_t q11_x_0 q11_x_1 q11_x_2 H11_x q11_y_0 q11_y_1 q11_y_2 H11_y
                            have q12_r_0 := o12_r.cell (i := 0) rfl
                            have q12_r_1 := o12_r.cell (i := 1) rfl
                            have q12_r_2 := o12_r.cell (i := 2) rfl
                            have l12_r := o12_r.lt
                            have H12_r := hide o12_r
                            clear o12_r
                            have q12_one_0 := o12_one.cell (i := 0) rfl
                            have q12_one_1 := o12_one.cell (i := 1) rfl
                            have q12_one_2 := o12_one.cell (i := 2) rfl
                            have l12_one := o12_one.lt
                            have H12_one := hide o12_one
                            clear o12_one
                            have q12_mine_0 := o12_mine.cell (i := 0) rfl
                            have q12_mine_1 := o12_mine.cell (i := 1) rfl
                            have q12_mine_2 := o12_mine.cell (i := 2) rfl
                            have q12_mine_3 := o12_mine.cell (i := 3) rfl
                            have l12_mine := o12_mine.lt
                            have H12_mine := hide o12_mine
                            clear o12_mine
                            have q12_t_0 := o12_t.cell (i := 0) rfl
                            have f12_t_0 := o12_t.free 0
                            have q12_t_1 := o12_t.cell (i := 1) rfl
                            have f12_t_1 := o12_t.free 1
                            have q12_t_2 := o12_t.cell (i := 2) rfl
                            have f12_t_2 := o12_t.free 2
                            have q12_t_3 := o12_t.cell (i := 3) rfl
                            have f12_t_3 := o12_t.free 3
                            have l12_t := o12_t.lt
                            have H12_t := hide o12_t
                            clear o12_t
                            have q12_x_0 := o12_x.cell (i := 0) rfl
                            have q12_x_1 := o12_x.cell (i := 1) rfl
                            have q12_x_2 := o12_x.cell (i := 2) rfl
                            have l12_x := o12_x.lt
                            have H12_x := hide o12_x
                            clear o12_x
                            have q12_y_0 := o12_y.cell (i := 0) rfl
                            have q12_y_1 := o12_y.cell (i := 1) rfl
                            have q12_y_2 := o12_y.cell (i := 2) rfl
                            have l12_y := o12_y.lt
                            have H12_y := hide o12_y
                            clear o12_y
                            have hy12 : w.heap.size ≤ w12.heap.size := hB12.size
                            clear hb12
                            go_wp2_with fail
                            refine (error_any 8 8 _ (hE.below (B := w.heap.size) (by go_grown) hE.pos)).mono ?_
                            rintro e w13 ⟨rfl, hb13⟩
                            have hB13 : Below w.heap.size w w13 := by
                              refine Below.trans ?_ (Below.mono hb13 ?_)
                              · go_grown
                              · first | omega | (simp; done) | (simp; omega)
                            have o13_r : ObjAt w13 (w.heap.size) 47 [.int .i64 99, .int .i64 k, .int .i64 o] := ObjAt.below (H12_r.out) hb13
                            have o13_one : ObjAt w13 (w1.heap.size) 47 [.int .i64 0, .int .i64 v5, .int .i64 0] := ObjAt.below (H12_one.out) hb13
                            have o13_mine : ObjAt w13 (w2.heap.size) 73 [.int .i64 0, .int .i64 3, .int .i64 10, .int .i64 g5] := ObjAt.below (H12_mine.out) hb13
                            have o13_t : ObjAt w13 (w6.heap.size) 73 [.int .i64 99, .int .i64 a, .int .i64 tm, .int .i64 n] := ObjAt.below (H12_t.out) hb13
                            have o13_x : ObjAt w13 (w9.heap.size) 47 [.int .i64 100, .int .i64 k2, .int .i64 k] := ObjAt.below (H12_x.out) hb13
                            have o13_y : ObjAt w13 (w10.heap.size) 47 [.int .i64 0, .int .i64 0, .int .i64 0] := ObjAt.below (H12_y.out) hb13
                            clear q12_r_0 q12_r_1 q12_r_2 H12_r q12_one_0 q12_one_1 q12_one_2 H12_one q12_mine_0 q12_mine_1 q12_mine_2 q12_mine_3 H12_mine q12_t_0 f12_t_0 q12_t_1 f12_t_1 q12_t_2 f12_t_2 q12_t_3 f12_t_3 H12_t q12_x_0 q12_x_1 q12_x_2 H12_x q12_y_0 q12_y_1 q12_y_2 H12_y
                            have q13_r_0 := o13_r.cell (i := 0) rfl
                            have q13_r_1 := o13_r.cell (i := 1) rfl
                            have q13_r_2 := o13_r.cell (i := 2) rfl
                            have l13_r := o13_r.lt
                            have H13_r := hide o13_r
                            clear o13_r
                            have q13_one_0 := o13_one.cell (i := 0) rfl
                            have q13_one_1 := o13_one.cell (i := 1) rfl
                            have q13_one_2 := o13_one.cell (i := 2) rfl
                            have l13_one := o13_one.lt
                            have H13_one := hide o13_one
                            clear o13_one
                            have q13_mine_0 := o13_mine.cell (i := 0) rfl
                            have q13_mine_1 := o13_mine.cell (i := 1) rfl
                            have q13_mine_2 := o13_mine.cell (i := 2) rfl
                            have q13_mine_3 := o13_mine.cell (i := 3) rfl
                            have l13_mine := o13_mine.lt
                            have H13_mine := hide o13_mine
                            clear o13_mine
                            have q13_t_0 := o13_t.cell (i := 0) rfl
                            have f13_t_0 := o13_t.free 0
                            have q13_t_1 := o13_t.cell (i := 1) rfl
                            have f13_t_1 := o13_t.free 1
                            have q13_t_2 := o13_t.cell (i := 2) rfl
                            have f13_t_2 := o13_t.free 2
                            have q13_t_3 := o13_t.cell (i := 3) rfl
                            have f13_t_3 := o13_t.free 3
                            have l13_t := o13_t.lt
                            have H13_t := hide o13_t
                            clear o13_t
                            have q13_x_0 := o13_x.cell (i := 0) rfl
                            have q13_x_1 := o13_x.cell (i := 1) rfl
                            have q13_x_2 := o13_x.cell (i := 2) rfl
                            have l13_x := o13_x.lt
                            have H13_x := hide o13_x
                            clear o13_x
                            have q13_y_0 := o13_y.cell (i := 0) rfl
                            have q13_y_1 := o13_y.cell (i := 1) rfl
                            have q13_y_2 := o13_y.cell (i := 2) rfl
                            have l13_y := o13_y.lt
                            have H13_y := hide o13_y
                            clear o13_y
                            have hy13 : w.heap.size ≤ w13.heap.size := hB13.size
                            clear hb13
                            go_wp2
                            go_ret
                            exact ⟨rfl, by go_grown⟩
                    ·
                      have TN := hide (HT1.out (by omega))
                      have TM := hide (HT2.out (by omega))
                      have hx := HQ1.out (by omega) hn.out hl.out
                      have hy := HQ2.out (by omega) hn.out hl.out
                      rw [if_neg (by omega)] at hx
                      rw [show e + 1 + 1 = e + 2 by omega] at TM
                      obtain ⟨k2, hk2⟩ : ∃ k2, k2 = tagOf k [e + 1] := ⟨_, rfl⟩
                      rw [← hk2] at TN TM hx hy
                      obtain ⟨k3, hk3⟩ : ∃ k3, k3 = tagOf k2 [e + 2] := ⟨_, rfl⟩
                      rw [← hk3] at TM hy
                      have CX : Hid (∀ W, Calls Tryd.prog 40 #[.agg #[.int .i64 (e + 1), .int .i64 k2, .int .i64 k], .agg #[.int .i64 e, .int .i64 a, .int .i64 tm, .int .i64 g], .int .i64 a, .int .i64 now, .int .i64 li] W fun r w' => r = .returned (.nilIface) ∧ Below W.heap.size W w') := tokenCheck_eq hx
                      have CY : Hid (∀ W, Calls Tryd.prog 40 #[.agg #[.int .i64 (e + 2), .int .i64 k3, .int .i64 k2], .agg #[.int .i64 e, .int .i64 a, .int .i64 tm, .int .i64 g], .int .i64 a, .int .i64 now, .int .i64 li] W fun r w' => r = .returned (.iface 94 (.int .i64 9)) ∧ Below W.heap.size W w') := tokenCheck_eq hy
                      have f3 : e < 99 := by omega
                      clear hx hy hk2 hk3 f1 f2
                      go_wp2_with fail
                      refine (TN.out _).mono ?_
                      rintro e w9 ⟨rfl, hb9⟩
                      have hB9 : Below w.heap.size w w9 := by
                        refine Below.trans ?_ (Below.mono hb9 ?_)
                        · go_grown
                        · first | omega | (simp; done) | (simp; omega)
                      have o9_r : ObjAt w9 (w.heap.size) 47 [.int .i64 e, .int .i64 k, .int .i64 o] := ObjAt.below (H8_r.out) hb9
                      have o9_one : ObjAt w9 (w1.heap.size) 47 [.int .i64 0, .int .i64 v5, .int .i64 0] := ObjAt.below (H8_one.out) hb9
                      have o9_mine : ObjAt w9 (w2.heap.size) 73 [.int .i64 0, .int .i64 3, .int .i64 10, .int .i64 g5] := ObjAt.below (H8_mine.out) hb9
                      have o9_t : ObjAt w9 (w6.heap.size) 73 [.int .i64 e, .int .i64 a, .int .i64 tm, .int .i64 g] := ObjAt.below (H8_t.out) hb9
                      clear q8_r_0 q8_r_1 q8_r_2 H8_r q8_one_0 q8_one_1 q8_one_2 H8_one q8_mine_0 q8_mine_1 q8_mine_2 q8_mine_3 H8_mine q8_t_0 f8_t_0 q8_t_1 f8_t_1 q8_t_2 f8_t_2 q8_t_3 f8_t_3 H8_t
                      have q9_r_0 := o9_r.cell (i := 0) rfl
                      have q9_r_1 := o9_r.cell (i := 1) rfl
                      have q9_r_2 := o9_r.cell (i := 2) rfl
                      have l9_r := o9_r.lt
                      have H9_r := hide o9_r
                      clear o9_r
                      have q9_one_0 := o9_one.cell (i := 0) rfl
                      have q9_one_1 := o9_one.cell (i := 1) rfl
                      have q9_one_2 := o9_one.cell (i := 2) rfl
                      have l9_one := o9_one.lt
                      have H9_one := hide o9_one
                      clear o9_one
                      have q9_mine_0 := o9_mine.cell (i := 0) rfl
                      have q9_mine_1 := o9_mine.cell (i := 1) rfl
                      have q9_mine_2 := o9_mine.cell (i := 2) rfl
                      have q9_mine_3 := o9_mine.cell (i := 3) rfl
                      have l9_mine := o9_mine.lt
                      have H9_mine := hide o9_mine
                      clear o9_mine
                      have q9_t_0 := o9_t.cell (i := 0) rfl
                      have f9_t_0 := o9_t.free 0
                      have q9_t_1 := o9_t.cell (i := 1) rfl
                      have f9_t_1 := o9_t.free 1
                      have q9_t_2 := o9_t.cell (i := 2) rfl
                      have f9_t_2 := o9_t.free 2
                      have q9_t_3 := o9_t.cell (i := 3) rfl
                      have f9_t_3 := o9_t.free 3
                      have l9_t := o9_t.lt
                      have H9_t := hide o9_t
                      clear o9_t
                      have hy9 : w.heap.size ≤ w9.heap.size := hB9.size
                      clear hb9
                      go_wp2_with fail
                      refine (TM.out _).mono ?_
                      rintro e w10 ⟨rfl, hb10⟩
                      have hB10 : Below w.heap.size w w10 := by
                        refine Below.trans ?_ (Below.mono hb10 ?_)
                        · go_grown
                        · first | omega | (simp; done) | (simp; omega)
                      have o10_r : ObjAt w10 (w.heap.size) 47 [.int .i64 e, .int .i64 k, .int .i64 o] := ObjAt.below (ObjAt.alloc (H9_r.out) _) hb10
                      have o10_one : ObjAt w10 (w1.heap.size) 47 [.int .i64 0, .int .i64 v5, .int .i64 0] := ObjAt.below (ObjAt.alloc (H9_one.out) _) hb10
                      have o10_mine : ObjAt w10 (w2.heap.size) 73 [.int .i64 0, .int .i64 3, .int .i64 10, .int .i64 g5] := ObjAt.below (ObjAt.alloc (H9_mine.out) _) hb10
                      have o10_t : ObjAt w10 (w6.heap.size) 73 [.int .i64 e, .int .i64 a, .int .i64 tm, .int .i64 g] := ObjAt.below (ObjAt.alloc (H9_t.out) _) hb10
                      have o10_x : ObjAt w10 (w9.heap.size) 47 [.int .i64 (e + 1), .int .i64 k2, .int .i64 k] := ObjAt.below (objNew (by simp)) hb10
                      clear q9_r_0 q9_r_1 q9_r_2 H9_r q9_one_0 q9_one_1 q9_one_2 H9_one q9_mine_0 q9_mine_1 q9_mine_2 q9_mine_3 H9_mine q9_t_0 f9_t_0 q9_t_1 f9_t_1 q9_t_2 f9_t_2 q9_t_3 f9_t_3 H9_t
                      have q10_r_0 := o10_r.cell (i := 0) rfl
                      have q10_r_1 := o10_r.cell (i := 1) rfl
                      have q10_r_2 := o10_r.cell (i := 2) rfl
                      have l10_r := o10_r.lt
                      have H10_r := hide o10_r
                      clear o10_r
                      have q10_one_0 := o10_one.cell (i := 0) rfl
                      have q10_one_1 := o10_one.cell (i := 1) rfl
                      have q10_one_2 := o10_one.cell (i := 2) rfl
                      have l10_one := o10_one.lt
                      have H10_one := hide o10_one
                      clear o10_one
                      have q10_mine_0 := o10_mine.cell (i := 0) rfl
                      have q10_mine_1 := o10_mine.cell (i := 1) rfl
                      have q10_mine_2 := o10_mine.cell (i := 2) rfl
                      have q10_mine_3 := o10_mine.cell (i := 3) rfl
                      have l10_mine := o10_mine.lt
                      have H10_mine := hide o10_mine
                      clear o10_mine
                      have q10_t_0 := o10_t.cell (i := 0) rfl
                      have f10_t_0 := o10_t.free 0
                      have q10_t_1 := o10_t.cell (i := 1) rfl
                      have f10_t_1 := o10_t.free 1
                      have q10_t_2 := o10_t.cell (i := 2) rfl
                      have f10_t_2 := o10_t.free 2
                      have q10_t_3 := o10_t.cell (i := 3) rfl
                      have f10_t_3 := o10_t.free 3
                      have l10_t := o10_t.lt
                      have H10_t := hide o10_t
                      clear o10_t
                      have q10_x_0 := o10_x.cell (i := 0) rfl
                      have q10_x_1 := o10_x.cell (i := 1) rfl
                      have q10_x_2 := o10_x.cell (i := 2) rfl
                      have l10_x := o10_x.lt
                      have H10_x := hide o10_x
                      clear o10_x
                      have hy10 : w.heap.size ≤ w10.heap.size := hB10.size
                      clear hb10
                      go_wp2_with fail
                      refine (CX.out _).mono ?_
                      rintro e w11 ⟨rfl, hb11⟩
                      have hB11 : Below w.heap.size w w11 := by
                        refine Below.trans ?_ (Below.mono hb11 ?_)
                        · go_grown
                        · first | omega | (simp; done) | (simp; omega)
                      have o11_r : ObjAt w11 (w.heap.size) 47 [.int .i64 e, .int .i64 k, .int .i64 o] := ObjAt.below (ObjAt.alloc (H10_r.out) _) hb11
                      have o11_one : ObjAt w11 (w1.heap.size) 47 [.int .i64 0, .int .i64 v5, .int .i64 0] := ObjAt.below (ObjAt.alloc (H10_one.out) _) hb11
                      have o11_mine : ObjAt w11 (w2.heap.size) 73 [.int .i64 0, .int .i64 3, .int .i64 10, .int .i64 g5] := ObjAt.below (ObjAt.alloc (H10_mine.out) _) hb11
                      have o11_t : ObjAt w11 (w6.heap.size) 73 [.int .i64 e, .int .i64 a, .int .i64 tm, .int .i64 g] := ObjAt.below (ObjAt.alloc (H10_t.out) _) hb11
                      have o11_x : ObjAt w11 (w9.heap.size) 47 [.int .i64 (e + 1), .int .i64 k2, .int .i64 k] := ObjAt.below (ObjAt.alloc (H10_x.out) _) hb11
                      have o11_y : ObjAt w11 (w10.heap.size) 47 [.int .i64 (e + 2), .int .i64 k3, .int .i64 k2] := ObjAt.below (objNew (by simp)) hb11
                      clear q10_r_0 q10_r_1 q10_r_2 H10_r q10_one_0 q10_one_1 q10_one_2 H10_one q10_mine_0 q10_mine_1 q10_mine_2 q10_mine_3 H10_mine q10_t_0 f10_t_0 q10_t_1 f10_t_1 q10_t_2 f10_t_2 q10_t_3 f10_t_3 H10_t q10_x_0 q10_x_1 q10_x_2 H10_x
                      have q11_r_0 := o11_r.cell (i := 0) rfl
                      have q11_r_1 := o11_r.cell (i := 1) rfl
                      have q11_r_2 := o11_r.cell (i := 2) rfl
                      have l11_r := o11_r.lt
                      have H11_r := hide o11_r
                      clear o11_r
                      have q11_one_0 := o11_one.cell (i := 0) rfl
                      have q11_one_1 := o11_one.cell (i := 1) rfl
                      have q11_one_2 := o11_one.cell (i := 2) rfl
                      have l11_one := o11_one.lt
                      have H11_one := hide o11_one
                      clear o11_one
                      have q11_mine_0 := o11_mine.cell (i := 0) rfl
                      have q11_mine_1 := o11_mine.cell (i := 1) rfl
                      have q11_mine_2 := o11_mine.cell (i := 2) rfl
                      have q11_mine_3 := o11_mine.cell (i := 3) rfl
                      have l11_mine := o11_mine.lt
                      have H11_mine := hide o11_mine
                      clear o11_mine
                      have q11_t_0 := o11_t.cell (i := 0) rfl
                      have f11_t_0 := o11_t.free 0
                      have q11_t_1 := o11_t.cell (i := 1) rfl
                      have f11_t_1 := o11_t.free 1
                      have q11_t_2 := o11_t.cell (i := 2) rfl
                      have f11_t_2 := o11_t.free 2
                      have q11_t_3 := o11_t.cell (i := 3) rfl
                      have f11_t_3 := o11_t.free 3
                      have l11_t := o11_t.lt
                      have H11_t := hide o11_t
                      clear o11_t
                      have q11_x_0 := o11_x.cell (i := 0) rfl
                      have q11_x_1 := o11_x.cell (i := 1) rfl
                      have q11_x_2 := o11_x.cell (i := 2) rfl
                      have l11_x := o11_x.lt
                      have H11_x := hide o11_x
                      clear o11_x
                      have q11_y_0 := o11_y.cell (i := 0) rfl
                      have q11_y_1 := o11_y.cell (i := 1) rfl
                      have q11_y_2 := o11_y.cell (i := 2) rfl
                      have l11_y := o11_y.lt
                      have H11_y := hide o11_y
                      clear o11_y
                      have hy11 : w.heap.size ≤ w11.heap.size := hB11.size
                      clear hb11
                      go_wp2_with fail
                      refine (CY.out _).mono ?_
                      rintro e w12 ⟨rfl, hb12⟩
                      have hB12 : Below w.heap.size w w12 := by
                        refine Below.trans ?_ (Below.mono hb12 ?_)
                        · go_grown
                        · first | omega | (simp; done) | (simp; omega)
                      have o12_r : ObjAt w12 (w.heap.size) 47 [.int .i64 e, .int .i64 k, .int .i64 o] := ObjAt.below (H11_r.out) hb12
                      have o12_one : ObjAt w12 (w1.heap.size) 47 [.int .i64 0, .int .i64 v5, .int .i64 0] := ObjAt.below (H11_one.out) hb12
                      have o12_mine : ObjAt w12 (w2.heap.size) 73 [.int .i64 0, .int .i64 3, .int .i64 10, .int .i64 g5] := ObjAt.below (H11_mine.out) hb12
                      have o12_t : ObjAt w12 (w6.heap.size) 73 [.int .i64 e, .int .i64 a, .int .i64 tm, .int .i64 g] := ObjAt.below (H11_t.out) hb12
                      have o12_x : ObjAt w12 (w9.heap.size) 47 [.int .i64 (e + 1), .int .i64 k2, .int .i64 k] := ObjAt.below (H11_x.out) hb12
                      have o12_y : ObjAt w12 (w10.heap.size) 47 [.int .i64 (e + 2), .int .i64 k3, .int .i64 k2] := ObjAt.below (H11_y.out) hb12
                      clear q11_r_0 q11_r_1 q11_r_2 H11_r q11_one_0 q11_one_1 q11_one_2 H11_one q11_mine_0 q11_mine_1 q11_mine_2 q11_mine_3 H11_mine q11_t_0 f11_t_0 q11_t_1 f11_t_1 q11_t_2 f11_t_2 q11_t_3 f11_t_3 H11_t q11_x_0 q11_x_1 q11_x_2 H11_x q11_y_0 q11_y_1 q11_y_2 H11_y
                      have q12_r_0 := o12_r.cell (i := 0) rfl
                      have q12_r_1 := o12_r.cell (i := 1) rfl
                      have q12_r_2 := o12_r.cell (i := 2) rfl
                      have l12_r := o12_r.lt
                      have H12_r := hide o12_r
                      clear o12_r
                      have q12_one_0 := o12_one.cell (i := 0) rfl
                      have q12_one_1 := o12_one.cell (i := 1) rfl
                      have q12_one_2 := o12_one.cell (i := 2) rfl
                      have l12_one := o12_one.lt
                      have H12_one := hide o12_one
                      clear o12_one
                      have q12_mine_0 := o12_mine.cell (i := 0) rfl
                      have q12_mine_1 := o12_mine.cell (i := 1) rfl
                      have q12_mine_2 := o12_mine.cell (i := 2) rfl
                      have q12_mine_3 := o12_mine.cell (i := 3) rfl
                      have l12_mine := o12_mine.lt
                      have H12_mine := hide o12_mine
                      clear o12_mine
                      have q12_t_0 := o12_t.cell (i := 0) rfl
                      have f12_t_0 := o12_t.free 0
                      have q12_t_1 := o12_t.cell (i := 1) rfl
                      have f12_t_1 := o12_t.free 1
                      have q12_t_2 := o12_t.cell (i := 2) rfl
                      have f12_t_2 := o12_t.free 2
                      have q12_t_3 := o12_t.cell (i := 3) rfl
                      have f12_t_3 := o12_t.free 3
                      have l12_t := o12_t.lt
                      have H12_t := hide o12_t
                      clear o12_t
                      have q12_x_0 := o12_x.cell (i := 0) rfl
                      have q12_x_1 := o12_x.cell (i := 1) rfl
                      have q12_x_2 := o12_x.cell (i := 2) rfl
                      have l12_x := o12_x.lt
                      have H12_x := hide o12_x
                      clear o12_x
                      have q12_y_0 := o12_y.cell (i := 0) rfl
                      have q12_y_1 := o12_y.cell (i := 1) rfl
                      have q12_y_2 := o12_y.cell (i := 2) rfl
                      have l12_y := o12_y.lt
                      have H12_y := hide o12_y
                      clear o12_y
                      have hy12 : w.heap.size ≤ w12.heap.size := hB12.size
                      clear hb12
                      go_wp2_with fail
                      refine (error_any 9 9 _ (hE.below (B := w.heap.size) (by go_grown) hE.pos)).mono ?_
                      rintro e w13 ⟨rfl, hb13⟩
                      have hB13 : Below w.heap.size w w13 := by
                        refine Below.trans ?_ (Below.mono hb13 ?_)
                        · go_grown
                        · first | omega | (simp; done) | (simp; omega)
                      have o13_r : ObjAt w13 (w.heap.size) 47 [.int .i64 e, .int .i64 k, .int .i64 o] := ObjAt.below (H12_r.out) hb13
                      have o13_one : ObjAt w13 (w1.heap.size) 47 [.int .i64 0, .int .i64 v5, .int .i64 0] := ObjAt.below (H12_one.out) hb13
                      have o13_mine : ObjAt w13 (w2.heap.size) 73 [.int .i64 0, .int .i64 3, .int .i64 10, .int .i64 g5] := ObjAt.below (H12_mine.out) hb13
                      have o13_t : ObjAt w13 (w6.heap.size) 73 [.int .i64 e, .int .i64 a, .int .i64 tm, .int .i64 g] := ObjAt.below (H12_t.out) hb13
                      have o13_x : ObjAt w13 (w9.heap.size) 47 [.int .i64 (e + 1), .int .i64 k2, .int .i64 k] := ObjAt.below (H12_x.out) hb13
                      have o13_y : ObjAt w13 (w10.heap.size) 47 [.int .i64 (e + 2), .int .i64 k3, .int .i64 k2] := ObjAt.below (H12_y.out) hb13
                      clear q12_r_0 q12_r_1 q12_r_2 H12_r q12_one_0 q12_one_1 q12_one_2 H12_one q12_mine_0 q12_mine_1 q12_mine_2 q12_mine_3 H12_mine q12_t_0 f12_t_0 q12_t_1 f12_t_1 q12_t_2 f12_t_2 q12_t_3 f12_t_3 H12_t q12_x_0 q12_x_1 q12_x_2 H12_x q12_y_0 q12_y_1 q12_y_2 H12_y
                      have q13_r_0 := o13_r.cell (i := 0) rfl
                      have q13_r_1 := o13_r.cell (i := 1) rfl
                      have q13_r_2 := o13_r.cell (i := 2) rfl
                      have l13_r := o13_r.lt
                      have H13_r := hide o13_r
                      clear o13_r
                      have q13_one_0 := o13_one.cell (i := 0) rfl
                      have q13_one_1 := o13_one.cell (i := 1) rfl
                      have q13_one_2 := o13_one.cell (i := 2) rfl
                      have l13_one := o13_one.lt
                      have H13_one := hide o13_one
                      clear o13_one
                      have q13_mine_0 := o13_mine.cell (i := 0) rfl
                      have q13_mine_1 := o13_mine.cell (i := 1) rfl
                      have q13_mine_2 := o13_mine.cell (i := 2) rfl
                      have q13_mine_3 := o13_mine.cell (i := 3) rfl
                      have l13_mine := o13_mine.lt
                      have H13_mine := hide o13_mine
                      clear o13_mine
                      have q13_t_0 := o13_t.cell (i := 0) rfl
                      have f13_t_0 := o13_t.free 0
                      have q13_t_1 := o13_t.cell (i := 1) rfl
                      have f13_t_1 := o13_t.free 1
                      have q13_t_2 := o13_t.cell (i := 2) rfl
                      have f13_t_2 := o13_t.free 2
                      have q13_t_3 := o13_t.cell (i := 3) rfl
                      have f13_t_3 := o13_t.free 3
                      have l13_t := o13_t.lt
                      have H13_t := hide o13_t
                      clear o13_t
                      have q13_x_0 := o13_x.cell (i := 0) rfl
                      have q13_x_1 := o13_x.cell (i := 1) rfl
                      have q13_x_2 := o13_x.cell (i := 2) rfl
                      have l13_x := o13_x.lt
                      have H13_x := hide o13_x
                      clear o13_x
                      have q13_y_0 := o13_y.cell (i := 0) rfl
                      have q13_y_1 := o13_y.cell (i := 1) rfl
                      have q13_y_2 := o13_y.cell (i := 2) rfl
                      have l13_y := o13_y.lt
                      have H13_y := hide o13_y
                      clear o13_y
                      have hy13 : w.heap.size ≤ w13.heap.size := hB13.size
                      clear hb13
                      by_cases z1 : n = g
                      ·
                        have tz : (n == g) = true := by simp [z1]
                        clear z1
                        go_wp2
                        go_ret
                        exact ⟨rfl, by go_grown⟩
                      ·
                        have tz : (n == g) = false := beq_eq_false_iff_ne.2 z1
                        by_cases z2 : n < 0
                        ·
                          clear z1
                          go_wp2
                          go_ret
                          exact ⟨rfl, by go_grown⟩
                        ·
                          have z2' : 0 ≤ n := by omega
                          by_cases z3 : 999982 < n
                          ·
                            clear z1 z2
                            go_wp2
                            go_ret
                            exact ⟨rfl, by go_grown⟩
                          ·
                            have z3' : n ≤ 999982 := by omega
                            have CN : Hid (∀ W, Calls Tryd.prog 40 #[.agg #[.int .i64 e, .int .i64 k, .int .i64 o], .agg #[.int .i64 e, .int .i64 a, .int .i64 tm, .int .i64 n], .int .i64 a, .int .i64 now, .int .i64 li] W fun r w' => r = .returned (.iface 94 (.int .i64 8)) ∧ Below W.heap.size W w') := tokenCheck_eq (HQ3.out hn.out hl.out (inB_true.2 ⟨z2', by omega⟩) z1)
                            clear z1 z2 z3
                            go_wp2_with fail
                            refine (CN.out _).mono ?_
                            rintro e w14 ⟨rfl, hb14⟩
                            have hB14 : Below w.heap.size w w14 := by
                              refine Below.trans ?_ (Below.mono hb14 ?_)
                              · go_grown
                              · first | omega | (simp; done) | (simp; omega)
                            have o14_r : ObjAt w14 (w.heap.size) 47 [.int .i64 e, .int .i64 k, .int .i64 o] := ObjAt.below (ObjAt.setOther (H13_r.out) (by simp; omega) _) hb14
                            have o14_one : ObjAt w14 (w1.heap.size) 47 [.int .i64 0, .int .i64 v5, .int .i64 0] := ObjAt.below (ObjAt.setOther (H13_one.out) (by simp; omega) _) hb14
                            have o14_mine : ObjAt w14 (w2.heap.size) 73 [.int .i64 0, .int .i64 3, .int .i64 10, .int .i64 g5] := ObjAt.below (ObjAt.setOther (H13_mine.out) (by simp; omega) _) hb14
                            have o14_t : ObjAt w14 (w6.heap.size) 73 [.int .i64 e, .int .i64 a, .int .i64 tm, .int .i64 n] := ObjAt.below (ObjAt.set (H13_t.out) 3 _) hb14
                            have o14_x : ObjAt w14 (w9.heap.size) 47 [.int .i64 (e + 1), .int .i64 k2, .int .i64 k] := ObjAt.below (ObjAt.setOther (H13_x.out) (by simp; omega) _) hb14
                            have o14_y : ObjAt w14 (w10.heap.size) 47 [.int .i64 (e + 2), .int .i64 k3, .int .i64 k2] := ObjAt.below (ObjAt.setOther (H13_y.out) (by simp; omega) _) hb14
                            clear q13_r_0 q13_r_1 q13_r_2 H13_r q13_one_0 q13_one_1 q13_one_2 H13_one q13_mine_0 q13_mine_1 q13_mine_2 q13_mine_3 H13_mine q13_t_0 f13_t_0 q13_t_1 f13_t_1 q13_t_2 f13_t_2 q13_t_3 f13_t_3 H13_t q13_x_0 q13_x_1 q13_x_2 H13_x q13_y_0 q13_y_1 q13_y_2 H13_y
                            have q14_r_0 := o14_r.cell (i := 0) rfl
                            have q14_r_1 := o14_r.cell (i := 1) rfl
                            have q14_r_2 := o14_r.cell (i := 2) rfl
                            have l14_r := o14_r.lt
                            have H14_r := hide o14_r
                            clear o14_r
                            have q14_one_0 := o14_one.cell (i := 0) rfl
                            have q14_one_1 := o14_one.cell (i := 1) rfl
                            have q14_one_2 := o14_one.cell (i := 2) rfl
                            have l14_one := o14_one.lt
                            have H14_one := hide o14_one
                            clear o14_one
                            have q14_mine_0 := o14_mine.cell (i := 0) rfl
                            have q14_mine_1 := o14_mine.cell (i := 1) rfl
                            have q14_mine_2 := o14_mine.cell (i := 2) rfl
                            have q14_mine_3 := o14_mine.cell (i := 3) rfl
                            have l14_mine := o14_mine.lt
                            have H14_mine := hide o14_mine
                            clear o14_mine
                            have q14_t_0 := o14_t.cell (i := 0) rfl
                            have f14_t_0 := o14_t.free 0
                            have q14_t_1 := o14_t.cell (i := 1) rfl
                            have f14_t_1 := o14_t.free 1
                            have q14_t_2 := o14_t.cell (i := 2) rfl
                            have f14_t_2 := o14_t.free 2
                            have q14_t_3 := o14_t.cell (i := 3) rfl
                            have f14_t_3 := o14_t.free 3
                            have l14_t := o14_t.lt
                            have H14_t := hide o14_t
                            clear o14_t
                            have q14_x_0 := o14_x.cell (i := 0) rfl
                            have q14_x_1 := o14_x.cell (i := 1) rfl
                            have q14_x_2 := o14_x.cell (i := 2) rfl
                            have l14_x := o14_x.lt
                            have H14_x := hide o14_x
                            clear o14_x
                            have q14_y_0 := o14_y.cell (i := 0) rfl
                            have q14_y_1 := o14_y.cell (i := 1) rfl
                            have q14_y_2 := o14_y.cell (i := 2) rfl
                            have l14_y := o14_y.lt
                            have H14_y := hide o14_y
                            clear o14_y
                            have hy14 : w.heap.size ≤ w14.heap.size := hB14.size
                            clear hb14
                            go_wp2_with fail
                            refine (error_any 8 8 _ (hE.below (B := w.heap.size) (by go_grown) hE.pos)).mono ?_
                            rintro e w15 ⟨rfl, hb15⟩
                            have hB15 : Below w.heap.size w w15 := by
                              refine Below.trans ?_ (Below.mono hb15 ?_)
                              · go_grown
                              · first | omega | (simp; done) | (simp; omega)
                            have o15_r : ObjAt w15 (w.heap.size) 47 [.int .i64 e, .int .i64 k, .int .i64 o] := ObjAt.below (H14_r.out) hb15
                            have o15_one : ObjAt w15 (w1.heap.size) 47 [.int .i64 0, .int .i64 v5, .int .i64 0] := ObjAt.below (H14_one.out) hb15
                            have o15_mine : ObjAt w15 (w2.heap.size) 73 [.int .i64 0, .int .i64 3, .int .i64 10, .int .i64 g5] := ObjAt.below (H14_mine.out) hb15
                            have o15_t : ObjAt w15 (w6.heap.size) 73 [.int .i64 e, .int .i64 a, .int .i64 tm, .int .i64 n] := ObjAt.below (H14_t.out) hb15
                            have o15_x : ObjAt w15 (w9.heap.size) 47 [.int .i64 (e + 1), .int .i64 k2, .int .i64 k] := ObjAt.below (H14_x.out) hb15
                            have o15_y : ObjAt w15 (w10.heap.size) 47 [.int .i64 (e + 2), .int .i64 k3, .int .i64 k2] := ObjAt.below (H14_y.out) hb15
                            clear q14_r_0 q14_r_1 q14_r_2 H14_r q14_one_0 q14_one_1 q14_one_2 H14_one q14_mine_0 q14_mine_1 q14_mine_2 q14_mine_3 H14_mine q14_t_0 f14_t_0 q14_t_1 f14_t_1 q14_t_2 f14_t_2 q14_t_3 f14_t_3 H14_t q14_x_0 q14_x_1 q14_x_2 H14_x q14_y_0 q14_y_1 q14_y_2 H14_y
                            have q15_r_0 := o15_r.cell (i := 0) rfl
                            have q15_r_1 := o15_r.cell (i := 1) rfl
                            have q15_r_2 := o15_r.cell (i := 2) rfl
                            have l15_r := o15_r.lt
                            have H15_r := hide o15_r
                            clear o15_r
                            have q15_one_0 := o15_one.cell (i := 0) rfl
                            have q15_one_1 := o15_one.cell (i := 1) rfl
                            have q15_one_2 := o15_one.cell (i := 2) rfl
                            have l15_one := o15_one.lt
                            have H15_one := hide o15_one
                            clear o15_one
                            have q15_mine_0 := o15_mine.cell (i := 0) rfl
                            have q15_mine_1 := o15_mine.cell (i := 1) rfl
                            have q15_mine_2 := o15_mine.cell (i := 2) rfl
                            have q15_mine_3 := o15_mine.cell (i := 3) rfl
                            have l15_mine := o15_mine.lt
                            have H15_mine := hide o15_mine
                            clear o15_mine
                            have q15_t_0 := o15_t.cell (i := 0) rfl
                            have f15_t_0 := o15_t.free 0
                            have q15_t_1 := o15_t.cell (i := 1) rfl
                            have f15_t_1 := o15_t.free 1
                            have q15_t_2 := o15_t.cell (i := 2) rfl
                            have f15_t_2 := o15_t.free 2
                            have q15_t_3 := o15_t.cell (i := 3) rfl
                            have f15_t_3 := o15_t.free 3
                            have l15_t := o15_t.lt
                            have H15_t := hide o15_t
                            clear o15_t
                            have q15_x_0 := o15_x.cell (i := 0) rfl
                            have q15_x_1 := o15_x.cell (i := 1) rfl
                            have q15_x_2 := o15_x.cell (i := 2) rfl
                            have l15_x := o15_x.lt
                            have H15_x := hide o15_x
                            clear o15_x
                            have q15_y_0 := o15_y.cell (i := 0) rfl
                            have q15_y_1 := o15_y.cell (i := 1) rfl
                            have q15_y_2 := o15_y.cell (i := 2) rfl
                            have l15_y := o15_y.lt
                            have H15_y := hide o15_y
                            clear o15_y
                            have hy15 : w.heap.size ≤ w15.heap.size := hB15.size
                            clear hb15
                            go_wp2
                            go_ret
                            exact ⟨rfl, by go_grown⟩
  · obtain ⟨c, hc⟩ : ∃ c, tomE e k o a tm = c := ⟨_, rfl⟩
    rw [hc] at hm
    have MK := hide (fun W => tokenMake_bad hc hm W)
    have t1 : (c != 0) = true := bne_iff_ne.2 hm
    clear hc hm
    go_enter Tryd.func14, Tryd.ntmps14
    go_wp2_with fail
    refine (N5.out _).mono ?_
    rintro e w1 ⟨rfl, hb1⟩
    have hB1 : Below w.heap.size w w1 := by
      refine Below.trans ?_ (Below.mono hb1 ?_)
      · go_grown
      · first | omega | (simp; done) | (simp; omega)
    have o1_r : ObjAt w1 (w.heap.size) 47 [.int .i64 e, .int .i64 k, .int .i64 o] := ObjAt.below (objNew (by simp)) hb1
    have q1_r_0 := o1_r.cell (i := 0) rfl
    have q1_r_1 := o1_r.cell (i := 1) rfl
    have q1_r_2 := o1_r.cell (i := 2) rfl
    have l1_r := o1_r.lt
    have H1_r := hide o1_r
    clear o1_r
    have hy1 : w.heap.size ≤ w1.heap.size := hB1.size
    clear hb1
    go_wp2_with fail
    refine (M5.out _).mono ?_
    rintro e w2 ⟨rfl, hb2⟩
    have hB2 : Below w.heap.size w w2 := by
      refine Below.trans ?_ (Below.mono hb2 ?_)
      · go_grown
      · first | omega | (simp; done) | (simp; omega)
    have o2_r : ObjAt w2 (w.heap.size) 47 [.int .i64 e, .int .i64 k, .int .i64 o] := ObjAt.below (ObjAt.alloc (H1_r.out) _) hb2
    have o2_one : ObjAt w2 (w1.heap.size) 47 [.int .i64 0, .int .i64 v5, .int .i64 0] := ObjAt.below (objNew (by simp)) hb2
    clear q1_r_0 q1_r_1 q1_r_2 H1_r
    have q2_r_0 := o2_r.cell (i := 0) rfl
    have q2_r_1 := o2_r.cell (i := 1) rfl
    have q2_r_2 := o2_r.cell (i := 2) rfl
    have l2_r := o2_r.lt
    have H2_r := hide o2_r
    clear o2_r
    have q2_one_0 := o2_one.cell (i := 0) rfl
    have q2_one_1 := o2_one.cell (i := 1) rfl
    have q2_one_2 := o2_one.cell (i := 2) rfl
    have l2_one := o2_one.lt
    have H2_one := hide o2_one
    clear o2_one
    have hy2 : w.heap.size ≤ w2.heap.size := hB2.size
    clear hb2
    go_wp2_with fail
    refine (C5.out _).mono ?_
    rintro e w3 ⟨rfl, hb3⟩
    have hB3 : Below w.heap.size w w3 := by
      refine Below.trans ?_ (Below.mono hb3 ?_)
      · go_grown
      · first | omega | (simp; done) | (simp; omega)
    have o3_r : ObjAt w3 (w.heap.size) 47 [.int .i64 e, .int .i64 k, .int .i64 o] := ObjAt.below (ObjAt.alloc (H2_r.out) _) hb3
    have o3_one : ObjAt w3 (w1.heap.size) 47 [.int .i64 0, .int .i64 v5, .int .i64 0] := ObjAt.below (ObjAt.alloc (H2_one.out) _) hb3
    have o3_mine : ObjAt w3 (w2.heap.size) 73 [.int .i64 0, .int .i64 3, .int .i64 10, .int .i64 g5] := ObjAt.below (objNew (by simp)) hb3
    clear q2_r_0 q2_r_1 q2_r_2 H2_r q2_one_0 q2_one_1 q2_one_2 H2_one
    have q3_r_0 := o3_r.cell (i := 0) rfl
    have q3_r_1 := o3_r.cell (i := 1) rfl
    have q3_r_2 := o3_r.cell (i := 2) rfl
    have l3_r := o3_r.lt
    have H3_r := hide o3_r
    clear o3_r
    have q3_one_0 := o3_one.cell (i := 0) rfl
    have q3_one_1 := o3_one.cell (i := 1) rfl
    have q3_one_2 := o3_one.cell (i := 2) rfl
    have l3_one := o3_one.lt
    have H3_one := hide o3_one
    clear o3_one
    have q3_mine_0 := o3_mine.cell (i := 0) rfl
    have q3_mine_1 := o3_mine.cell (i := 1) rfl
    have q3_mine_2 := o3_mine.cell (i := 2) rfl
    have q3_mine_3 := o3_mine.cell (i := 3) rfl
    have l3_mine := o3_mine.lt
    have H3_mine := hide o3_mine
    clear o3_mine
    have hy3 : w.heap.size ≤ w3.heap.size := hB3.size
    clear hb3
    go_wp2_with fail
    refine (D5.out _).mono ?_
    rintro e w4 ⟨rfl, hb4⟩
    have hB4 : Below w.heap.size w w4 := by
      refine Below.trans ?_ (Below.mono hb4 ?_)
      · go_grown
      · first | omega | (simp; done) | (simp; omega)
    have o4_r : ObjAt w4 (w.heap.size) 47 [.int .i64 e, .int .i64 k, .int .i64 o] := ObjAt.below (H3_r.out) hb4
    have o4_one : ObjAt w4 (w1.heap.size) 47 [.int .i64 0, .int .i64 v5, .int .i64 0] := ObjAt.below (H3_one.out) hb4
    have o4_mine : ObjAt w4 (w2.heap.size) 73 [.int .i64 0, .int .i64 3, .int .i64 10, .int .i64 g5] := ObjAt.below (H3_mine.out) hb4
    clear q3_r_0 q3_r_1 q3_r_2 H3_r q3_one_0 q3_one_1 q3_one_2 H3_one q3_mine_0 q3_mine_1 q3_mine_2 q3_mine_3 H3_mine
    have q4_r_0 := o4_r.cell (i := 0) rfl
    have q4_r_1 := o4_r.cell (i := 1) rfl
    have q4_r_2 := o4_r.cell (i := 2) rfl
    have l4_r := o4_r.lt
    have H4_r := hide o4_r
    clear o4_r
    have q4_one_0 := o4_one.cell (i := 0) rfl
    have q4_one_1 := o4_one.cell (i := 1) rfl
    have q4_one_2 := o4_one.cell (i := 2) rfl
    have l4_one := o4_one.lt
    have H4_one := hide o4_one
    clear o4_one
    have q4_mine_0 := o4_mine.cell (i := 0) rfl
    have q4_mine_1 := o4_mine.cell (i := 1) rfl
    have q4_mine_2 := o4_mine.cell (i := 2) rfl
    have q4_mine_3 := o4_mine.cell (i := 3) rfl
    have l4_mine := o4_mine.lt
    have H4_mine := hide o4_mine
    clear o4_mine
    have hy4 : w.heap.size ≤ w4.heap.size := hB4.size
    clear hb4
    go_wp2_with fail
    refine (error_any 7 7 _ (hE.below (B := w.heap.size) (by go_grown) hE.pos)).mono ?_
    rintro e w5 ⟨rfl, hb5⟩
    have hB5 : Below w.heap.size w w5 := by
      refine Below.trans ?_ (Below.mono hb5 ?_)
      · go_grown
      · first | omega | (simp; done) | (simp; omega)
    have o5_r : ObjAt w5 (w.heap.size) 47 [.int .i64 e, .int .i64 k, .int .i64 o] := ObjAt.below (H4_r.out) hb5
    have o5_one : ObjAt w5 (w1.heap.size) 47 [.int .i64 0, .int .i64 v5, .int .i64 0] := ObjAt.below (H4_one.out) hb5
    have o5_mine : ObjAt w5 (w2.heap.size) 73 [.int .i64 0, .int .i64 3, .int .i64 10, .int .i64 g5] := ObjAt.below (H4_mine.out) hb5
    clear q4_r_0 q4_r_1 q4_r_2 H4_r q4_one_0 q4_one_1 q4_one_2 H4_one q4_mine_0 q4_mine_1 q4_mine_2 q4_mine_3 H4_mine
    have q5_r_0 := o5_r.cell (i := 0) rfl
    have q5_r_1 := o5_r.cell (i := 1) rfl
    have q5_r_2 := o5_r.cell (i := 2) rfl
    have l5_r := o5_r.lt
    have H5_r := hide o5_r
    clear o5_r
    have q5_one_0 := o5_one.cell (i := 0) rfl
    have q5_one_1 := o5_one.cell (i := 1) rfl
    have q5_one_2 := o5_one.cell (i := 2) rfl
    have l5_one := o5_one.lt
    have H5_one := hide o5_one
    clear o5_one
    have q5_mine_0 := o5_mine.cell (i := 0) rfl
    have q5_mine_1 := o5_mine.cell (i := 1) rfl
    have q5_mine_2 := o5_mine.cell (i := 2) rfl
    have q5_mine_3 := o5_mine.cell (i := 3) rfl
    have l5_mine := o5_mine.lt
    have H5_mine := hide o5_mine
    clear o5_mine
    have hy5 : w.heap.size ≤ w5.heap.size := hB5.size
    clear hb5
    go_wp2_with fail
    refine (MK.out _).mono ?_
    rintro e w6 ⟨rfl, hb6⟩
    have hB6 : Below w.heap.size w w6 := by
      refine Below.trans ?_ (Below.mono hb6 ?_)
      · go_grown
      · first | omega | (simp; done) | (simp; omega)
    have o6_r : ObjAt w6 (w.heap.size) 47 [.int .i64 e, .int .i64 k, .int .i64 o] := ObjAt.below (H5_r.out) hb6
    have o6_one : ObjAt w6 (w1.heap.size) 47 [.int .i64 0, .int .i64 v5, .int .i64 0] := ObjAt.below (H5_one.out) hb6
    have o6_mine : ObjAt w6 (w2.heap.size) 73 [.int .i64 0, .int .i64 3, .int .i64 10, .int .i64 g5] := ObjAt.below (H5_mine.out) hb6
    clear q5_r_0 q5_r_1 q5_r_2 H5_r q5_one_0 q5_one_1 q5_one_2 H5_one q5_mine_0 q5_mine_1 q5_mine_2 q5_mine_3 H5_mine
    have q6_r_0 := o6_r.cell (i := 0) rfl
    have q6_r_1 := o6_r.cell (i := 1) rfl
    have q6_r_2 := o6_r.cell (i := 2) rfl
    have l6_r := o6_r.lt
    have H6_r := hide o6_r
    clear o6_r
    have q6_one_0 := o6_one.cell (i := 0) rfl
    have q6_one_1 := o6_one.cell (i := 1) rfl
    have q6_one_2 := o6_one.cell (i := 2) rfl
    have l6_one := o6_one.lt
    have H6_one := hide o6_one
    clear o6_one
    have q6_mine_0 := o6_mine.cell (i := 0) rfl
    have q6_mine_1 := o6_mine.cell (i := 1) rfl
    have q6_mine_2 := o6_mine.cell (i := 2) rfl
    have q6_mine_3 := o6_mine.cell (i := 3) rfl
    have l6_mine := o6_mine.lt
    have H6_mine := hide o6_mine
    clear o6_mine
    have hy6 : w.heap.size ≤ w6.heap.size := hB6.size
    clear hb6
    go_wp2
    go_ret
    exact ⟨rfl, by go_grown⟩
end Go.Proofs.YtelegodagepeeaaDoor
