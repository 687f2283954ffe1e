/- The walk of TokenNow. -/
import Derived.Test.YtelegodagepeeaaDoorTokFacts
import Derived.Test.YtelegodagepeeaaDoorErr
import Derived.Test.YtelegodagepeeaaDoorObj4
namespace Go.Proofs.YtelegodagepeeaaDoor
open Go.RowKit

set_option maxHeartbeats 1000000 in
theorem walkTokenNow (w : World) (e k o : Int) (_w1 : (Lit.int .i64 e).wf = true) (_w2 : (Lit.int .i64 k).wf = true) (_w3 : (Lit.int .i64 o).wf = true) (ad : Int) (_w4 : (Lit.int .i64 ad).wf = true) (tm : Int) (_w5 : (Lit.int .i64 tm).wf = true) (hE : ErrT w) :
    Calls Tryd.prog 10 #[.agg #[.int .i64 e, .int .i64 k, .int .i64 o], .int .i64 ad, .int .i64 tm] w fun r w' => r = .returned (.bool true) ∧ Below w.heap.size w w' := by
  clear _w1 _w2 _w3 _w4 _w5
  rcases tomE_cases e k o ad tm with ⟨hm, hr, ha, ht⟩ | hm
  · obtain ⟨he, hk, _, _⟩ := ringE_ok hr
    obtain ⟨ht0, ht1⟩ := tmB_true.1 ht
    have MK := hide (fun W => tokenMake_ok hr ha ht W)
    have c0 : tokE e k o e ad tm (tagOf k [1, ad, tm]) ad tm 0 = 0 := by
      rw [tokE_at hr (epB_true.2 he) (ringOfN_self e k o) ha ht ha ht (by decide), if_neg (by simp), if_neg (by omega)]
    have c2 : tm < 100000 → tokE e k o e ad tm (tagOf k [1, ad, tm]) ad (tm + 1) 0 = 9 := by
      intro h
      rw [tokE_at hr (epB_true.2 he) (ringOfN_self e k o) ha ht ha (tmB_true.2 (by omega)) (by decide), if_neg (by simp), if_pos (by omega)]
    have c1 : tm = 100000 → tokE e k o e ad tm (tagOf k [1, ad, tm]) ad 100001 0 = 1 := fun h => tokE_range hr (by rw [show tmB 100001 = false from by decide]; simp)
    obtain ⟨g, hg⟩ : ∃ g, g = tagOf k [1, ad, tm] := ⟨_, rfl⟩
    rw [← hg] at MK c0 c1 c2
    have C0 : Hid (∀ W, Calls Tryd.prog 40 #[.agg #[.int .i64 e, .int .i64 k, .int .i64 o], .agg #[.int .i64 e, .int .i64 ad, .int .i64 tm, .int .i64 g], .int .i64 ad, .int .i64 tm, .int .i64 0] W fun r w' => r = .returned (.nilIface) ∧ Below W.heap.size W w') := tokenCheck_eq c0
    by_cases h9 : tm = 100000
    · have C1 : Hid (∀ W, Calls Tryd.prog 40 #[.agg #[.int .i64 e, .int .i64 k, .int .i64 o], .agg #[.int .i64 e, .int .i64 ad, .int .i64 tm, .int .i64 g], .int .i64 ad, .int .i64 100001, .int .i64 0] W fun r w' => r = .returned (.iface 94 (.int .i64 1)) ∧ Below W.heap.size W w') := tokenCheck_eq (c1 h9)
      subst h9
      clear hm hr ha ht he hk hg c0 c1 c2 ht0 ht1
      go_enter Tryd.func10, Tryd.ntmps10
      go_wp2_with fail
      refine (MK.out _).mono ?_
      rintro e w1 ⟨rfl, hb1⟩
      have hB1 : Below w.heap.size w w1 := by
        refine Below.trans ?_ (Below.mono hb1 ?_)
        · go_grown
        · first | omega | (simp; done) | (simp; omega)
      have o1_r : ObjAt w1 (w.heap.size) 47 [.int .i64 e, .int .i64 k, .int .i64 o] := ObjAt.below (objNew (by simp)) hb1
      have q1_r_0 := o1_r.cell (i := 0) rfl
      have q1_r_1 := o1_r.cell (i := 1) rfl
      have q1_r_2 := o1_r.cell (i := 2) rfl
      have l1_r := o1_r.lt
      have H1_r := hide o1_r
      clear o1_r
      have hy1 : w.heap.size ≤ w1.heap.size := hB1.size
      clear hb1
      go_wp2_with fail
      refine (C1.out _).mono ?_
      rintro e w2 ⟨rfl, hb2⟩
      have hB2 : Below w.heap.size w w2 := by
        refine Below.trans ?_ (Below.mono hb2 ?_)
        · go_grown
        · first | omega | (simp; done) | (simp; omega)
      have o2_r : ObjAt w2 (w.heap.size) 47 [.int .i64 e, .int .i64 k, .int .i64 o] := ObjAt.below (ObjAt.alloc (H1_r.out) _) hb2
      have o2_t : ObjAt w2 (w1.heap.size) 73 [.int .i64 e, .int .i64 ad, .int .i64 100000, .int .i64 g] := ObjAt.below (objNew (by simp)) hb2
      clear q1_r_0 q1_r_1 q1_r_2 H1_r
      have q2_r_0 := o2_r.cell (i := 0) rfl
      have q2_r_1 := o2_r.cell (i := 1) rfl
      have q2_r_2 := o2_r.cell (i := 2) rfl
      have l2_r := o2_r.lt
      have H2_r := hide o2_r
      clear o2_r
      have q2_t_0 := o2_t.cell (i := 0) rfl
      have q2_t_1 := o2_t.cell (i := 1) rfl
      have q2_t_2 := o2_t.cell (i := 2) rfl
      have q2_t_3 := o2_t.cell (i := 3) rfl
      have l2_t := o2_t.lt
      have H2_t := hide o2_t
      clear o2_t
      have hy2 : w.heap.size ≤ w2.heap.size := hB2.size
      clear hb2
      go_wp2_with fail
      refine (C0.out _).mono ?_
      rintro e w3 ⟨rfl, hb3⟩
      have hB3 : Below w.heap.size w w3 := by
        refine Below.trans ?_ (Below.mono hb3 ?_)
        · go_grown
        · first | omega | (simp; done) | (simp; omega)
      have o3_r : ObjAt w3 (w.heap.size) 47 [.int .i64 e, .int .i64 k, .int .i64 o] := ObjAt.below (H2_r.out) hb3
      have o3_t : ObjAt w3 (w1.heap.size) 73 [.int .i64 e, .int .i64 ad, .int .i64 100000, .int .i64 g] := ObjAt.below (H2_t.out) hb3
      clear q2_r_0 q2_r_1 q2_r_2 H2_r q2_t_0 q2_t_1 q2_t_2 q2_t_3 H2_t
      have q3_r_0 := o3_r.cell (i := 0) rfl
      have q3_r_1 := o3_r.cell (i := 1) rfl
      have q3_r_2 := o3_r.cell (i := 2) rfl
      have l3_r := o3_r.lt
      have H3_r := hide o3_r
      clear o3_r
      have q3_t_0 := o3_t.cell (i := 0) rfl
      have q3_t_1 := o3_t.cell (i := 1) rfl
      have q3_t_2 := o3_t.cell (i := 2) rfl
      have q3_t_3 := o3_t.cell (i := 3) rfl
      have l3_t := o3_t.lt
      have H3_t := hide o3_t
      clear o3_t
      have hy3 : w.heap.size ≤ w3.heap.size := hB3.size
      clear hb3
      go_wp2_with fail
      refine (error_any 1 1 _ (hE.below (B := w.heap.size) (by go_grown) hE.pos)).mono ?_
      rintro e w4 ⟨rfl, hb4⟩
      have hB4 : Below w.heap.size w w4 := by
        refine Below.trans ?_ (Below.mono hb4 ?_)
        · go_grown
        · first | omega | (simp; done) | (simp; omega)
      have o4_r : ObjAt w4 (w.heap.size) 47 [.int .i64 e, .int .i64 k, .int .i64 o] := ObjAt.below (H3_r.out) hb4
      have o4_t : ObjAt w4 (w1.heap.size) 73 [.int .i64 e, .int .i64 ad, .int .i64 100000, .int .i64 g] := ObjAt.below (H3_t.out) hb4
      clear q3_r_0 q3_r_1 q3_r_2 H3_r q3_t_0 q3_t_1 q3_t_2 q3_t_3 H3_t
      have q4_r_0 := o4_r.cell (i := 0) rfl
      have q4_r_1 := o4_r.cell (i := 1) rfl
      have q4_r_2 := o4_r.cell (i := 2) rfl
      have l4_r := o4_r.lt
      have H4_r := hide o4_r
      clear o4_r
      have q4_t_0 := o4_t.cell (i := 0) rfl
      have q4_t_1 := o4_t.cell (i := 1) rfl
      have q4_t_2 := o4_t.cell (i := 2) rfl
      have q4_t_3 := o4_t.cell (i := 3) rfl
      have l4_t := o4_t.lt
      have H4_t := hide o4_t
      clear o4_t
      have hy4 : w.heap.size ≤ w4.heap.size := hB4.size
      clear hb4
      go_wp2
      go_ret
      exact ⟨rfl, by go_grown⟩
    · have h10 : tm < 100000 := by omega
      have C2 : Hid (∀ W, Calls Tryd.prog 40 #[.agg #[.int .i64 e, .int .i64 k, .int .i64 o], .agg #[.int .i64 e, .int .i64 ad, .int .i64 tm, .int .i64 g], .int .i64 ad, .int .i64 (tm + 1), .int .i64 0] W fun r w' => r = .returned (.iface 94 (.int .i64 9)) ∧ Below W.heap.size W w') := tokenCheck_eq (c2 h10)
      clear hm hr ha ht he hk hg c0 c1 c2 h9
      have t5 : (tm == 100000) = false := beq_eq_false_iff_ne.2 (by omega)
      go_enter Tryd.func10, Tryd.ntmps10
      go_wp2_with fail
      refine (MK.out _).mono ?_
      rintro e w1 ⟨rfl, hb1⟩
      have hB1 : Below w.heap.size w w1 := by
        refine Below.trans ?_ (Below.mono hb1 ?_)
        · go_grown
        · first | omega | (simp; done) | (simp; omega)
      have o1_r : ObjAt w1 (w.heap.size) 47 [.int .i64 e, .int .i64 k, .int .i64 o] := ObjAt.below (objNew (by simp)) hb1
      have q1_r_0 := o1_r.cell (i := 0) rfl
      have q1_r_1 := o1_r.cell (i := 1) rfl
      have q1_r_2 := o1_r.cell (i := 2) rfl
      have l1_r := o1_r.lt
      have H1_r := hide o1_r
      clear o1_r
      have hy1 : w.heap.size ≤ w1.heap.size := hB1.size
      clear hb1
      go_wp2_with fail
      refine (C2.out _).mono ?_
      rintro e w2 ⟨rfl, hb2⟩
      have hB2 : Below w.heap.size w w2 := by
        refine Below.trans ?_ (Below.mono hb2 ?_)
        · go_grown
        · first | omega | (simp; done) | (simp; omega)
      have o2_r : ObjAt w2 (w.heap.size) 47 [.int .i64 e, .int .i64 k, .int .i64 o] := ObjAt.below (ObjAt.alloc (H1_r.out) _) hb2
      have o2_t : ObjAt w2 (w1.heap.size) 73 [.int .i64 e, .int .i64 ad, .int .i64 tm, .int .i64 g] := ObjAt.below (objNew (by simp)) hb2
      clear q1_r_0 q1_r_1 q1_r_2 H1_r
      have q2_r_0 := o2_r.cell (i := 0) rfl
      have q2_r_1 := o2_r.cell (i := 1) rfl
      have q2_r_2 := o2_r.cell (i := 2) rfl
      have l2_r := o2_r.lt
      have H2_r := hide o2_r
      clear o2_r
      have q2_t_0 := o2_t.cell (i := 0) rfl
      have q2_t_1 := o2_t.cell (i := 1) rfl
      have q2_t_2 := o2_t.cell (i := 2) rfl
      have q2_t_3 := o2_t.cell (i := 3) rfl
      have l2_t := o2_t.lt
      have H2_t := hide o2_t
      clear o2_t
      have hy2 : w.heap.size ≤ w2.heap.size := hB2.size
      clear hb2
      go_wp2_with fail
      refine (C0.out _).mono ?_
      rintro e w3 ⟨rfl, hb3⟩
      have hB3 : Below w.heap.size w w3 := by
        refine Below.trans ?_ (Below.mono hb3 ?_)
        · go_grown
        · first | omega | (simp; done) | (simp; omega)
      have o3_r : ObjAt w3 (w.heap.size) 47 [.int .i64 e, .int .i64 k, .int .i64 o] := ObjAt.below (H2_r.out) hb3
      have o3_t : ObjAt w3 (w1.heap.size) 73 [.int .i64 e, .int .i64 ad, .int .i64 tm, .int .i64 g] := ObjAt.below (H2_t.out) hb3
      clear q2_r_0 q2_r_1 q2_r_2 H2_r q2_t_0 q2_t_1 q2_t_2 q2_t_3 H2_t
      have q3_r_0 := o3_r.cell (i := 0) rfl
      have q3_r_1 := o3_r.cell (i := 1) rfl
      have q3_r_2 := o3_r.cell (i := 2) rfl
      have l3_r := o3_r.lt
      have H3_r := hide o3_r
      clear o3_r
      have q3_t_0 := o3_t.cell (i := 0) rfl
      have q3_t_1 := o3_t.cell (i := 1) rfl
      have q3_t_2 := o3_t.cell (i := 2) rfl
      have q3_t_3 := o3_t.cell (i := 3) rfl
      have l3_t := o3_t.lt
      have H3_t := hide o3_t
      clear o3_t
      have hy3 : w.heap.size ≤ w3.heap.size := hB3.size
      clear hb3
      go_wp2_with fail
      refine (error_any 9 9 _ (hE.below (B := w.heap.size) (by go_grown) hE.pos)).mono ?_
      rintro e w4 ⟨rfl, hb4⟩
      have hB4 : Below w.heap.size w w4 := by
        refine Below.trans ?_ (Below.mono hb4 ?_)
        · go_grown
        · first | omega | (simp; done) | (simp; omega)
      have o4_r : ObjAt w4 (w.heap.size) 47 [.int .i64 e, .int .i64 k, .int .i64 o] := ObjAt.below (H3_r.out) hb4
      have o4_t : ObjAt w4 (w1.heap.size) 73 [.int .i64 e, .int .i64 ad, .int .i64 tm, .int .i64 g] := ObjAt.below (H3_t.out) hb4
      clear q3_r_0 q3_r_1 q3_r_2 H3_r q3_t_0 q3_t_1 q3_t_2 q3_t_3 H3_t
      have q4_r_0 := o4_r.cell (i := 0) rfl
      have q4_r_1 := o4_r.cell (i := 1) rfl
      have q4_r_2 := o4_r.cell (i := 2) rfl
      have l4_r := o4_r.lt
      have H4_r := hide o4_r
      clear o4_r
      have q4_t_0 := o4_t.cell (i := 0) rfl
      have q4_t_1 := o4_t.cell (i := 1) rfl
      have q4_t_2 := o4_t.cell (i := 2) rfl
      have q4_t_3 := o4_t.cell (i := 3) rfl
      have l4_t := o4_t.lt
      have H4_t := hide o4_t
      clear o4_t
      have hy4 : w.heap.size ≤ w4.heap.size := hB4.size
      clear hb4
      go_wp2
      go_ret
      exact ⟨rfl, by go_grown⟩
  · obtain ⟨c, hc⟩ : ∃ c, tomE e k o ad tm = c := ⟨_, rfl⟩
    rw [hc] at hm
    have MK := hide (fun W => tokenMake_bad hc hm W)
    have t1 : (c != 0) = true := bne_iff_ne.2 hm
    clear hc hm
    go_enter Tryd.func10, Tryd.ntmps10
    go_wp2_with fail
    refine (MK.out _).mono ?_
    rintro e w1 ⟨rfl, hb1⟩
    have hB1 : Below w.heap.size w w1 := by
      refine Below.trans ?_ (Below.mono hb1 ?_)
      · go_grown
      · first | omega | (simp; done) | (simp; omega)
    have o1_r : ObjAt w1 (w.heap.size) 47 [.int .i64 e, .int .i64 k, .int .i64 o] := ObjAt.below (objNew (by simp)) hb1
    have q1_r_0 := o1_r.cell (i := 0) rfl
    have q1_r_1 := o1_r.cell (i := 1) rfl
    have q1_r_2 := o1_r.cell (i := 2) rfl
    have l1_r := o1_r.lt
    have H1_r := hide o1_r
    clear o1_r
    have hy1 : w.heap.size ≤ w1.heap.size := hB1.size
    clear hb1
    go_wp2
    go_ret
    exact ⟨rfl, by go_grown⟩
end Go.Proofs.YtelegodagepeeaaDoor
