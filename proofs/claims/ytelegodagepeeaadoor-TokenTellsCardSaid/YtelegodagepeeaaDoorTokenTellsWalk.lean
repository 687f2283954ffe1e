/- The walk of TokenTells. -/
import Derived.Test.YtelegodagepeeaaDoorRToken
import Derived.Test.YtelegodagepeeaaDoorTokFacts
import Derived.Test.YtelegodagepeeaaDoorErr
import Derived.Test.YtelegodagepeeaaDoorObj4
import Derived.Deep.RegionHeld3
namespace Go.Proofs.YtelegodagepeeaaDoor
open Go.RowKit

set_option maxHeartbeats 2000000 in
theorem walkTokenTells (w : World) (e k o : Int) (_w1 : (Lit.int .i64 e).wf = true) (_w2 : (Lit.int .i64 k).wf = true) (_w3 : (Lit.int .i64 o).wf = true) (a : Int) (_w4 : (Lit.int .i64 a).wf = true) (tm : Int) (_w5 : (Lit.int .i64 tm).wf = true) (te ta tt0 tg : Int) (_w6 : (Lit.int .i64 te).wf = true) (_w7 : (Lit.int .i64 ta).wf = true) (_w8 : (Lit.int .i64 tt0).wf = true) (_w9 : (Lit.int .i64 tg).wf = true) (now : Int) (_w10 : (Lit.int .i64 now).wf = true) (li : Int) (_w11 : (Lit.int .i64 li).wf = true) (hE : ErrT w) :
    Calls Tryd.prog 9 #[.agg #[.int .i64 e, .int .i64 k, .int .i64 o], .int .i64 a, .int .i64 tm, .agg #[.int .i64 te, .int .i64 ta, .int .i64 tt0, .int .i64 tg], .int .i64 now, .int .i64 li] w fun r w' => r = .returned (.bool true) ∧ Below w.heap.size w w' := by
  clear _w1 _w2 _w3 _w4 _w5 _w6 _w7 _w8 _w9 _w10 _w11
  obtain ⟨fc, hfc⟩ : ∃ c, tokE e k o te ta tt0 tg a now li = c := ⟨_, rfl⟩
  have CK := hide (fun W => tokenCheck_eq hfc W)
  have RK := hide (fun W => rToken_eq hfc W)
  clear hfc
  have RA := hide (fun W => rIn a W)
  have RT := hide (fun W => rTime tm W)
  obtain ⟨rc, hr⟩ : ∃ c, ringE e k o = c := ⟨_, rfl⟩
  have RR := hide (fun W => rRing_eq hr W)
  by_cases h0 : rc = 0
  · subst h0
    cases ha : inB a
    · have MK : Hid (∀ W, Calls Tryd.prog 39 #[.agg #[.int .i64 e, .int .i64 k, .int .i64 o], .int .i64 a, .int .i64 tm] W fun r w' => r = .returned (.tuple #[.agg #[.int .i64 0, .int .i64 0, .int .i64 0, .int .i64 0], .iface 94 (.int .i64 1)]) ∧ Below W.heap.size W w') := hide (tokenMake_bad (c := 1) (by simp [tomE, hr, ha]) (by decide))
      rw [ha] at RA
      clear ha hr
      go_enter Tryd.func9, Tryd.ntmps9
      go_wp2_with fail
      refine (RR.out _).mono ?_
      rintro e w1 ⟨rfl, hb1⟩
      have hB1 : Below w.heap.size w w1 := by
        refine Below.trans ?_ (Below.mono hb1 ?_)
        · go_grown
        · first | omega | (simp; done) | (simp; omega)
      have o1_r : ObjAt w1 (w.heap.size) 47 [.int .i64 e, .int .i64 k, .int .i64 o] := ObjAt.below (ObjAt.alloc (objNew (by simp)) _) hb1
      have o1_t : ObjAt w1 (w.heap.size + 1) 73 [.int .i64 te, .int .i64 ta, .int .i64 tt0, .int .i64 tg] := ObjAt.below (objNew (by simp)) hb1
      have q1_r_0 := o1_r.cell (i := 0) rfl
      have q1_r_1 := o1_r.cell (i := 1) rfl
      have q1_r_2 := o1_r.cell (i := 2) rfl
      have l1_r := o1_r.lt
      have H1_r := hide o1_r
      clear o1_r
      have q1_t_0 := o1_t.cell (i := 0) rfl
      have q1_t_1 := o1_t.cell (i := 1) rfl
      have q1_t_2 := o1_t.cell (i := 2) rfl
      have q1_t_3 := o1_t.cell (i := 3) rfl
      have l1_t := o1_t.lt
      have H1_t := hide o1_t
      clear o1_t
      have hy1 : w.heap.size ≤ w1.heap.size := hB1.size
      clear hb1
      go_wp2_with fail
      refine (RA.out _).mono ?_
      rintro e w502 ⟨rfl, rfl⟩
      go_wp2_with fail
      refine (RT.out _).mono ?_
      rintro e w503 ⟨rfl, rfl⟩
      go_wp2_with fail
      refine (MK.out _).mono ?_
      rintro e w4 ⟨rfl, hb4⟩
      have hB4 : Below w.heap.size w w4 := by
        refine Below.trans ?_ (Below.mono hb4 ?_)
        · go_grown
        · first | omega | (simp; done) | (simp; omega)
      have o4_r : ObjAt w4 (w.heap.size) 47 [.int .i64 e, .int .i64 k, .int .i64 o] := ObjAt.below (ObjAt.alloc (H1_r.out) _) hb4
      have o4_t : ObjAt w4 (w.heap.size + 1) 73 [.int .i64 te, .int .i64 ta, .int .i64 tt0, .int .i64 tg] := ObjAt.below (ObjAt.alloc (H1_t.out) _) hb4
      have o4_want : ObjAt w4 (w1.heap.size) 73 [.int .i64 0, .int .i64 0, .int .i64 0, .int .i64 0] := ObjAt.below (objNew (by simp)) hb4
      clear q1_r_0 q1_r_1 q1_r_2 H1_r q1_t_0 q1_t_1 q1_t_2 q1_t_3 H1_t
      have q4_r_0 := o4_r.cell (i := 0) rfl
      have q4_r_1 := o4_r.cell (i := 1) rfl
      have q4_r_2 := o4_r.cell (i := 2) rfl
      have l4_r := o4_r.lt
      have H4_r := hide o4_r
      clear o4_r
      have q4_t_0 := o4_t.cell (i := 0) rfl
      have q4_t_1 := o4_t.cell (i := 1) rfl
      have q4_t_2 := o4_t.cell (i := 2) rfl
      have q4_t_3 := o4_t.cell (i := 3) rfl
      have l4_t := o4_t.lt
      have H4_t := hide o4_t
      clear o4_t
      have q4_want_0 := o4_want.cell (i := 0) rfl
      have f4_want_0 := o4_want.free 0
      have q4_want_1 := o4_want.cell (i := 1) rfl
      have f4_want_1 := o4_want.free 1
      have q4_want_2 := o4_want.cell (i := 2) rfl
      have f4_want_2 := o4_want.free 2
      have q4_want_3 := o4_want.cell (i := 3) rfl
      have f4_want_3 := o4_want.free 3
      have l4_want := o4_want.lt
      have H4_want := hide o4_want
      clear o4_want
      have hy4 : w.heap.size ≤ w4.heap.size := hB4.size
      clear hb4
      go_wp2_with fail
      refine (error_any 1 1 _ (hE.below (B := w.heap.size) (by go_grown) hE.pos)).mono ?_
      rintro e w5 ⟨rfl, hb5⟩
      have hB5 : Below w.heap.size w w5 := by
        refine Below.trans ?_ (Below.mono hb5 ?_)
        · go_grown
        · first | omega | (simp; done) | (simp; omega)
      have o5_r : ObjAt w5 (w.heap.size) 47 [.int .i64 e, .int .i64 k, .int .i64 o] := ObjAt.below (ObjAt.alloc (H4_r.out) _) hb5
      have o5_t : ObjAt w5 (w.heap.size + 1) 73 [.int .i64 te, .int .i64 ta, .int .i64 tt0, .int .i64 tg] := ObjAt.below (ObjAt.alloc (H4_t.out) _) hb5
      have o5_want : ObjAt w5 (w1.heap.size) 73 [.int .i64 0, .int .i64 0, .int .i64 0, .int .i64 0] := ObjAt.below (ObjAt.alloc (H4_want.out) _) hb5
      have o5_x : ObjAt w5 (w4.heap.size) 73 [.int .i64 0, .int .i64 0, .int .i64 0, .int .i64 0] := ObjAt.below (objNew (by simp)) hb5
      clear q4_r_0 q4_r_1 q4_r_2 H4_r q4_t_0 q4_t_1 q4_t_2 q4_t_3 H4_t q4_want_0 f4_want_0 q4_want_1 f4_want_1 q4_want_2 f4_want_2 q4_want_3 f4_want_3 H4_want
      have q5_r_0 := o5_r.cell (i := 0) rfl
      have q5_r_1 := o5_r.cell (i := 1) rfl
      have q5_r_2 := o5_r.cell (i := 2) rfl
      have l5_r := o5_r.lt
      have H5_r := hide o5_r
      clear o5_r
      have q5_t_0 := o5_t.cell (i := 0) rfl
      have q5_t_1 := o5_t.cell (i := 1) rfl
      have q5_t_2 := o5_t.cell (i := 2) rfl
      have q5_t_3 := o5_t.cell (i := 3) rfl
      have l5_t := o5_t.lt
      have H5_t := hide o5_t
      clear o5_t
      have q5_want_0 := o5_want.cell (i := 0) rfl
      have f5_want_0 := o5_want.free 0
      have q5_want_1 := o5_want.cell (i := 1) rfl
      have f5_want_1 := o5_want.free 1
      have q5_want_2 := o5_want.cell (i := 2) rfl
      have f5_want_2 := o5_want.free 2
      have q5_want_3 := o5_want.cell (i := 3) rfl
      have f5_want_3 := o5_want.free 3
      have l5_want := o5_want.lt
      have H5_want := hide o5_want
      clear o5_want
      have q5_x_0 := o5_x.cell (i := 0) rfl
      have f5_x_0 := o5_x.free 0
      have q5_x_1 := o5_x.cell (i := 1) rfl
      have f5_x_1 := o5_x.free 1
      have q5_x_2 := o5_x.cell (i := 2) rfl
      have f5_x_2 := o5_x.free 2
      have q5_x_3 := o5_x.cell (i := 3) rfl
      have f5_x_3 := o5_x.free 3
      have l5_x := o5_x.lt
      have H5_x := hide o5_x
      clear o5_x
      have hy5 : w.heap.size ≤ w5.heap.size := hB5.size
      clear hb5
      go_wp2_with fail
      go_region_held3 (fun w' => w'.cell? ⟨w.heap.size, 0, none⟩ = some (.int .i64 e) ∧ w'.cell? ⟨w.heap.size, 1, none⟩ = some (.int .i64 k) ∧ w'.cell? ⟨w.heap.size, 2, none⟩ = some (.int .i64 o) ∧ w'.cell? ⟨w.heap.size + 1, 0, none⟩ = some (.int .i64 te) ∧ w'.cell? ⟨w.heap.size + 1, 1, none⟩ = some (.int .i64 ta) ∧ w'.cell? ⟨w.heap.size + 1, 2, none⟩ = some (.int .i64 tt0) ∧ w'.cell? ⟨w.heap.size + 1, 3, none⟩ = some (.int .i64 tg)) (go_keep) (first
        | (go_at_call 40; refine (CK.out _).mono ?_; rintro e w6 ⟨rfl, hb6⟩; have hB6 : Below w.heap.size w w6 := (by refine Below.trans ?_ (Below.mono hb6 ?_); (first | exact hB5.drew | go_grown); (first | omega | (simp; done) | (simp; omega))); have c6 : ∀ b o, b < w5.heap.size → w6.cell? ⟨b, o, none⟩ = w5.cell? ⟨b, o, none⟩ := (bcell hb6).1; have l6_r : w.heap.size < w6.heap.size := Nat.lt_of_lt_of_le (by assumption) hb6.size; have l6_t : w.heap.size + 1 < w6.heap.size := Nat.lt_of_lt_of_le (by assumption) hb6.size)
        | (go_at_call 41; refine (RK.out _).mono ?_; rintro e w7 ⟨rfl, hb7⟩; have hB7 : Below w.heap.size w w7 := (by refine Below.trans ?_ (Below.mono hb7 ?_); (first | exact hB6 | go_grown); (first | omega | (simp; done) | (simp; omega))); have c7 : ∀ b o, b < w6.heap.size → w7.cell? ⟨b, o, none⟩ = w6.cell? ⟨b, o, none⟩ := (bcell hb7).1; have l7_r : w.heap.size < w7.heap.size := Nat.lt_of_lt_of_le (by assumption) hb7.size; have l7_t : w.heap.size + 1 < w7.heap.size := Nat.lt_of_lt_of_le (by assumption) hb7.size)
        | (go_at_call 16; refine (error_any fc fc _ (hE.below (B := w.heap.size) (by assumption) hE.pos)).mono ?_; rintro e w8 ⟨rfl, hb8⟩; have hB8 : Below w.heap.size w w8 := (by refine Below.trans ?_ (Below.mono hb8 ?_); (first | exact hB7 | go_grown); (first | omega | (simp; done) | (simp; omega))); have c8 : ∀ b o, b < w7.heap.size → w8.cell? ⟨b, o, none⟩ = w7.cell? ⟨b, o, none⟩ := (bcell hb8).1; have l8_r : w.heap.size < w8.heap.size := Nat.lt_of_lt_of_le (by assumption) hb8.size; have l8_t : w.heap.size + 1 < w8.heap.size := Nat.lt_of_lt_of_le (by assumption) hb8.size))
      have o8_r : ObjAt w8 (w.heap.size) 47 [.int .i64 e, .int .i64 k, .int .i64 o] := ObjAt.below (ObjAt.below (ObjAt.below (ObjAt.drew (H5_r.out)) hb6) hb7) hb8
      have o8_t : ObjAt w8 (w.heap.size + 1) 73 [.int .i64 te, .int .i64 ta, .int .i64 tt0, .int .i64 tg] := ObjAt.below (ObjAt.below (ObjAt.below (ObjAt.drew (H5_t.out)) hb6) hb7) hb8
      have o8_want : ObjAt w8 (w1.heap.size) 73 [.int .i64 0, .int .i64 0, .int .i64 0, .int .i64 0] := ObjAt.below (ObjAt.below (ObjAt.below (ObjAt.drew (H5_want.out)) hb6) hb7) hb8
      have o8_x : ObjAt w8 (w4.heap.size) 73 [.int .i64 0, .int .i64 0, .int .i64 0, .int .i64 0] := ObjAt.below (ObjAt.below (ObjAt.below (ObjAt.drew (H5_x.out)) hb6) hb7) hb8
      clear q5_r_0 q5_r_1 q5_r_2 H5_r q5_t_0 q5_t_1 q5_t_2 q5_t_3 H5_t q5_want_0 f5_want_0 q5_want_1 f5_want_1 q5_want_2 f5_want_2 q5_want_3 f5_want_3 H5_want q5_x_0 f5_x_0 q5_x_1 f5_x_1 q5_x_2 f5_x_2 q5_x_3 f5_x_3 H5_x
      have q8_r_0 := o8_r.cell (i := 0) rfl
      have q8_r_1 := o8_r.cell (i := 1) rfl
      have q8_r_2 := o8_r.cell (i := 2) rfl
      have H8_r := hide o8_r
      clear o8_r
      have q8_t_0 := o8_t.cell (i := 0) rfl
      have q8_t_1 := o8_t.cell (i := 1) rfl
      have q8_t_2 := o8_t.cell (i := 2) rfl
      have q8_t_3 := o8_t.cell (i := 3) rfl
      have H8_t := hide o8_t
      clear o8_t
      have q8_want_0 := o8_want.cell (i := 0) rfl
      have f8_want_0 := o8_want.free 0
      have q8_want_1 := o8_want.cell (i := 1) rfl
      have f8_want_1 := o8_want.free 1
      have q8_want_2 := o8_want.cell (i := 2) rfl
      have f8_want_2 := o8_want.free 2
      have q8_want_3 := o8_want.cell (i := 3) rfl
      have f8_want_3 := o8_want.free 3
      have H8_want := hide o8_want
      clear o8_want
      have q8_x_0 := o8_x.cell (i := 0) rfl
      have f8_x_0 := o8_x.free 0
      have q8_x_1 := o8_x.cell (i := 1) rfl
      have f8_x_1 := o8_x.free 1
      have q8_x_2 := o8_x.cell (i := 2) rfl
      have f8_x_2 := o8_x.free 2
      have q8_x_3 := o8_x.cell (i := 3) rfl
      have f8_x_3 := o8_x.free 3
      have H8_x := hide o8_x
      clear o8_x
      have hy8 : w.heap.size ≤ w8.heap.size := hB8.size
      clear hb6 c6 hb7 c7 hb8 c8
      go_wp2
      go_ret
      exact ⟨rfl, by go_grown⟩
    · cases ht : tmB tm
      · have MK : Hid (∀ W, Calls Tryd.prog 39 #[.agg #[.int .i64 e, .int .i64 k, .int .i64 o], .int .i64 a, .int .i64 tm] W fun r w' => r = .returned (.tuple #[.agg #[.int .i64 0, .int .i64 0, .int .i64 0, .int .i64 0], .iface 94 (.int .i64 1)]) ∧ Below W.heap.size W w') := hide (tokenMake_bad (c := 1) (by simp [tomE, hr, ht]) (by decide))
        rw [ha] at RA
        rw [ht] at RT
        clear ha hr ht
        go_enter Tryd.func9, Tryd.ntmps9
        go_wp2_with fail
        refine (RR.out _).mono ?_
        rintro e w1 ⟨rfl, hb1⟩
        have hB1 : Below w.heap.size w w1 := by
          refine Below.trans ?_ (Below.mono hb1 ?_)
          · go_grown
          · first | omega | (simp; done) | (simp; omega)
        have o1_r : ObjAt w1 (w.heap.size) 47 [.int .i64 e, .int .i64 k, .int .i64 o] := ObjAt.below (ObjAt.alloc (objNew (by simp)) _) hb1
        have o1_t : ObjAt w1 (w.heap.size + 1) 73 [.int .i64 te, .int .i64 ta, .int .i64 tt0, .int .i64 tg] := ObjAt.below (objNew (by simp)) hb1
        have q1_r_0 := o1_r.cell (i := 0) rfl
        have q1_r_1 := o1_r.cell (i := 1) rfl
        have q1_r_2 := o1_r.cell (i := 2) rfl
        have l1_r := o1_r.lt
        have H1_r := hide o1_r
        clear o1_r
        have q1_t_0 := o1_t.cell (i := 0) rfl
        have q1_t_1 := o1_t.cell (i := 1) rfl
        have q1_t_2 := o1_t.cell (i := 2) rfl
        have q1_t_3 := o1_t.cell (i := 3) rfl
        have l1_t := o1_t.lt
        have H1_t := hide o1_t
        clear o1_t
        have hy1 : w.heap.size ≤ w1.heap.size := hB1.size
        clear hb1
        go_wp2_with fail
        refine (RA.out _).mono ?_
        rintro e w502 ⟨rfl, rfl⟩
        go_wp2_with fail
        refine (RT.out _).mono ?_
        rintro e w503 ⟨rfl, rfl⟩
        go_wp2_with fail
        refine (MK.out _).mono ?_
        rintro e w4 ⟨rfl, hb4⟩
        have hB4 : Below w.heap.size w w4 := by
          refine Below.trans ?_ (Below.mono hb4 ?_)
          · go_grown
          · first | omega | (simp; done) | (simp; omega)
        have o4_r : ObjAt w4 (w.heap.size) 47 [.int .i64 e, .int .i64 k, .int .i64 o] := ObjAt.below (ObjAt.alloc (H1_r.out) _) hb4
        have o4_t : ObjAt w4 (w.heap.size + 1) 73 [.int .i64 te, .int .i64 ta, .int .i64 tt0, .int .i64 tg] := ObjAt.below (ObjAt.alloc (H1_t.out) _) hb4
        have o4_want : ObjAt w4 (w1.heap.size) 73 [.int .i64 0, .int .i64 0, .int .i64 0, .int .i64 0] := ObjAt.below (objNew (by simp)) hb4
        clear q1_r_0 q1_r_1 q1_r_2 H1_r q1_t_0 q1_t_1 q1_t_2 q1_t_3 H1_t
        have q4_r_0 := o4_r.cell (i := 0) rfl
        have q4_r_1 := o4_r.cell (i := 1) rfl
        have q4_r_2 := o4_r.cell (i := 2) rfl
        have l4_r := o4_r.lt
        have H4_r := hide o4_r
        clear o4_r
        have q4_t_0 := o4_t.cell (i := 0) rfl
        have q4_t_1 := o4_t.cell (i := 1) rfl
        have q4_t_2 := o4_t.cell (i := 2) rfl
        have q4_t_3 := o4_t.cell (i := 3) rfl
        have l4_t := o4_t.lt
        have H4_t := hide o4_t
        clear o4_t
        have q4_want_0 := o4_want.cell (i := 0) rfl
        have f4_want_0 := o4_want.free 0
        have q4_want_1 := o4_want.cell (i := 1) rfl
        have f4_want_1 := o4_want.free 1
        have q4_want_2 := o4_want.cell (i := 2) rfl
        have f4_want_2 := o4_want.free 2
        have q4_want_3 := o4_want.cell (i := 3) rfl
        have f4_want_3 := o4_want.free 3
        have l4_want := o4_want.lt
        have H4_want := hide o4_want
        clear o4_want
        have hy4 : w.heap.size ≤ w4.heap.size := hB4.size
        clear hb4
        go_wp2_with fail
        refine (error_any 1 1 _ (hE.below (B := w.heap.size) (by go_grown) hE.pos)).mono ?_
        rintro e w5 ⟨rfl, hb5⟩
        have hB5 : Below w.heap.size w w5 := by
          refine Below.trans ?_ (Below.mono hb5 ?_)
          · go_grown
          · first | omega | (simp; done) | (simp; omega)
        have o5_r : ObjAt w5 (w.heap.size) 47 [.int .i64 e, .int .i64 k, .int .i64 o] := ObjAt.below (ObjAt.alloc (H4_r.out) _) hb5
        have o5_t : ObjAt w5 (w.heap.size + 1) 73 [.int .i64 te, .int .i64 ta, .int .i64 tt0, .int .i64 tg] := ObjAt.below (ObjAt.alloc (H4_t.out) _) hb5
        have o5_want : ObjAt w5 (w1.heap.size) 73 [.int .i64 0, .int .i64 0, .int .i64 0, .int .i64 0] := ObjAt.below (ObjAt.alloc (H4_want.out) _) hb5
        have o5_x : ObjAt w5 (w4.heap.size) 73 [.int .i64 0, .int .i64 0, .int .i64 0, .int .i64 0] := ObjAt.below (objNew (by simp)) hb5
        clear q4_r_0 q4_r_1 q4_r_2 H4_r q4_t_0 q4_t_1 q4_t_2 q4_t_3 H4_t q4_want_0 f4_want_0 q4_want_1 f4_want_1 q4_want_2 f4_want_2 q4_want_3 f4_want_3 H4_want
        have q5_r_0 := o5_r.cell (i := 0) rfl
        have q5_r_1 := o5_r.cell (i := 1) rfl
        have q5_r_2 := o5_r.cell (i := 2) rfl
        have l5_r := o5_r.lt
        have H5_r := hide o5_r
        clear o5_r
        have q5_t_0 := o5_t.cell (i := 0) rfl
        have q5_t_1 := o5_t.cell (i := 1) rfl
        have q5_t_2 := o5_t.cell (i := 2) rfl
        have q5_t_3 := o5_t.cell (i := 3) rfl
        have l5_t := o5_t.lt
        have H5_t := hide o5_t
        clear o5_t
        have q5_want_0 := o5_want.cell (i := 0) rfl
        have f5_want_0 := o5_want.free 0
        have q5_want_1 := o5_want.cell (i := 1) rfl
        have f5_want_1 := o5_want.free 1
        have q5_want_2 := o5_want.cell (i := 2) rfl
        have f5_want_2 := o5_want.free 2
        have q5_want_3 := o5_want.cell (i := 3) rfl
        have f5_want_3 := o5_want.free 3
        have l5_want := o5_want.lt
        have H5_want := hide o5_want
        clear o5_want
        have q5_x_0 := o5_x.cell (i := 0) rfl
        have f5_x_0 := o5_x.free 0
        have q5_x_1 := o5_x.cell (i := 1) rfl
        have f5_x_1 := o5_x.free 1
        have q5_x_2 := o5_x.cell (i := 2) rfl
        have f5_x_2 := o5_x.free 2
        have q5_x_3 := o5_x.cell (i := 3) rfl
        have f5_x_3 := o5_x.free 3
        have l5_x := o5_x.lt
        have H5_x := hide o5_x
        clear o5_x
        have hy5 : w.heap.size ≤ w5.heap.size := hB5.size
        clear hb5
        go_wp2_with fail
        go_region_held3 (fun w' => w'.cell? ⟨w.heap.size, 0, none⟩ = some (.int .i64 e) ∧ w'.cell? ⟨w.heap.size, 1, none⟩ = some (.int .i64 k) ∧ w'.cell? ⟨w.heap.size, 2, none⟩ = some (.int .i64 o) ∧ w'.cell? ⟨w.heap.size + 1, 0, none⟩ = some (.int .i64 te) ∧ w'.cell? ⟨w.heap.size + 1, 1, none⟩ = some (.int .i64 ta) ∧ w'.cell? ⟨w.heap.size + 1, 2, none⟩ = some (.int .i64 tt0) ∧ w'.cell? ⟨w.heap.size + 1, 3, none⟩ = some (.int .i64 tg)) (go_keep) (first
          | (go_at_call 40; refine (CK.out _).mono ?_; rintro e w6 ⟨rfl, hb6⟩; have hB6 : Below w.heap.size w w6 := (by refine Below.trans ?_ (Below.mono hb6 ?_); (first | exact hB5.drew | go_grown); (first | omega | (simp; done) | (simp; omega))); have c6 : ∀ b o, b < w5.heap.size → w6.cell? ⟨b, o, none⟩ = w5.cell? ⟨b, o, none⟩ := (bcell hb6).1; have l6_r : w.heap.size < w6.heap.size := Nat.lt_of_lt_of_le (by assumption) hb6.size; have l6_t : w.heap.size + 1 < w6.heap.size := Nat.lt_of_lt_of_le (by assumption) hb6.size)
          | (go_at_call 41; refine (RK.out _).mono ?_; rintro e w7 ⟨rfl, hb7⟩; have hB7 : Below w.heap.size w w7 := (by refine Below.trans ?_ (Below.mono hb7 ?_); (first | exact hB6 | go_grown); (first | omega | (simp; done) | (simp; omega))); have c7 : ∀ b o, b < w6.heap.size → w7.cell? ⟨b, o, none⟩ = w6.cell? ⟨b, o, none⟩ := (bcell hb7).1; have l7_r : w.heap.size < w7.heap.size := Nat.lt_of_lt_of_le (by assumption) hb7.size; have l7_t : w.heap.size + 1 < w7.heap.size := Nat.lt_of_lt_of_le (by assumption) hb7.size)
          | (go_at_call 16; refine (error_any fc fc _ (hE.below (B := w.heap.size) (by assumption) hE.pos)).mono ?_; rintro e w8 ⟨rfl, hb8⟩; have hB8 : Below w.heap.size w w8 := (by refine Below.trans ?_ (Below.mono hb8 ?_); (first | exact hB7 | go_grown); (first | omega | (simp; done) | (simp; omega))); have c8 : ∀ b o, b < w7.heap.size → w8.cell? ⟨b, o, none⟩ = w7.cell? ⟨b, o, none⟩ := (bcell hb8).1; have l8_r : w.heap.size < w8.heap.size := Nat.lt_of_lt_of_le (by assumption) hb8.size; have l8_t : w.heap.size + 1 < w8.heap.size := Nat.lt_of_lt_of_le (by assumption) hb8.size))
        have o8_r : ObjAt w8 (w.heap.size) 47 [.int .i64 e, .int .i64 k, .int .i64 o] := ObjAt.below (ObjAt.below (ObjAt.below (ObjAt.drew (H5_r.out)) hb6) hb7) hb8
        have o8_t : ObjAt w8 (w.heap.size + 1) 73 [.int .i64 te, .int .i64 ta, .int .i64 tt0, .int .i64 tg] := ObjAt.below (ObjAt.below (ObjAt.below (ObjAt.drew (H5_t.out)) hb6) hb7) hb8
        have o8_want : ObjAt w8 (w1.heap.size) 73 [.int .i64 0, .int .i64 0, .int .i64 0, .int .i64 0] := ObjAt.below (ObjAt.below (ObjAt.below (ObjAt.drew (H5_want.out)) hb6) hb7) hb8
        have o8_x : ObjAt w8 (w4.heap.size) 73 [.int .i64 0, .int .i64 0, .int .i64 0, .int .i64 0] := ObjAt.below (ObjAt.below (ObjAt.below (ObjAt.drew (H5_x.out)) hb6) hb7) hb8
        clear q5_r_0 q5_r_1 q5_r_2 H5_r q5_t_0 q5_t_1 q5_t_2 q5_t_3 H5_t q5_want_0 f5_want_0 q5_want_1 f5_want_1 q5_want_2 f5_want_2 q5_want_3 f5_want_3 H5_want q5_x_0 f5_x_0 q5_x_1 f5_x_1 q5_x_2 f5_x_2 q5_x_3 f5_x_3 H5_x
        have q8_r_0 := o8_r.cell (i := 0) rfl
        have q8_r_1 := o8_r.cell (i := 1) rfl
        have q8_r_2 := o8_r.cell (i := 2) rfl
        have H8_r := hide o8_r
        clear o8_r
        have q8_t_0 := o8_t.cell (i := 0) rfl
        have q8_t_1 := o8_t.cell (i := 1) rfl
        have q8_t_2 := o8_t.cell (i := 2) rfl
        have q8_t_3 := o8_t.cell (i := 3) rfl
        have H8_t := hide o8_t
        clear o8_t
        have q8_want_0 := o8_want.cell (i := 0) rfl
        have f8_want_0 := o8_want.free 0
        have q8_want_1 := o8_want.cell (i := 1) rfl
        have f8_want_1 := o8_want.free 1
        have q8_want_2 := o8_want.cell (i := 2) rfl
        have f8_want_2 := o8_want.free 2
        have q8_want_3 := o8_want.cell (i := 3) rfl
        have f8_want_3 := o8_want.free 3
        have H8_want := hide o8_want
        clear o8_want
        have q8_x_0 := o8_x.cell (i := 0) rfl
        have f8_x_0 := o8_x.free 0
        have q8_x_1 := o8_x.cell (i := 1) rfl
        have f8_x_1 := o8_x.free 1
        have q8_x_2 := o8_x.cell (i := 2) rfl
        have f8_x_2 := o8_x.free 2
        have q8_x_3 := o8_x.cell (i := 3) rfl
        have f8_x_3 := o8_x.free 3
        have H8_x := hide o8_x
        clear o8_x
        have hy8 : w.heap.size ≤ w8.heap.size := hB8.size
        clear hb6 c6 hb7 c7 hb8 c8
        go_wp2
        go_ret
        exact ⟨rfl, by go_grown⟩
      · have MK := hide (fun W => tokenMake_ok hr ha ht W)
        obtain ⟨_, hk, _, _⟩ := ringE_ok hr
        have G3 := hide (rTag3 hk (show (0 : Int) ≤ 1 ∧ (1 : Int) < 999983 by omega) (inB_true.1 ha) (show 0 ≤ tm ∧ tm < 999983 by have := tmB_true.1 ht; omega))
        obtain ⟨g, hg⟩ : ∃ g, g = tagOf k [1, a, tm] := ⟨_, rfl⟩
        rw [← hg] at MK G3
        rw [ha] at RA
        rw [ht] at RT
        clear ha hr ht hk hg
        go_enter Tryd.func9, Tryd.ntmps9
        go_wp2_with fail
        refine (RR.out _).mono ?_
        rintro e w1 ⟨rfl, hb1⟩
        have hB1 : Below w.heap.size w w1 := by
          refine Below.trans ?_ (Below.mono hb1 ?_)
          · go_grown
          · first | omega | (simp; done) | (simp; omega)
        have o1_r : ObjAt w1 (w.heap.size) 47 [.int .i64 e, .int .i64 k, .int .i64 o] := ObjAt.below (ObjAt.alloc (objNew (by simp)) _) hb1
        have o1_t : ObjAt w1 (w.heap.size + 1) 73 [.int .i64 te, .int .i64 ta, .int .i64 tt0, .int .i64 tg] := ObjAt.below (objNew (by simp)) hb1
        have q1_r_0 := o1_r.cell (i := 0) rfl
        have q1_r_1 := o1_r.cell (i := 1) rfl
        have q1_r_2 := o1_r.cell (i := 2) rfl
        have l1_r := o1_r.lt
        have H1_r := hide o1_r
        clear o1_r
        have q1_t_0 := o1_t.cell (i := 0) rfl
        have q1_t_1 := o1_t.cell (i := 1) rfl
        have q1_t_2 := o1_t.cell (i := 2) rfl
        have q1_t_3 := o1_t.cell (i := 3) rfl
        have l1_t := o1_t.lt
        have H1_t := hide o1_t
        clear o1_t
        have hy1 : w.heap.size ≤ w1.heap.size := hB1.size
        clear hb1
        go_wp2_with fail
        refine (RA.out _).mono ?_
        rintro e w502 ⟨rfl, rfl⟩
        go_wp2_with fail
        refine (RT.out _).mono ?_
        rintro e w503 ⟨rfl, rfl⟩
        have z1 : w.heap.size < w1.heap.size := l1_r
        go_wp2_with fail
        go_region_held3 (fun w' => w'.cell? ⟨w.heap.size, 0, none⟩ = some (.int .i64 e) ∧ w'.cell? ⟨w.heap.size, 1, none⟩ = some (.int .i64 k)) (go_keep)
          (first | (go_at_call 29; refine (G3.out _ _ ?_).mono ?_; (first | (with_reducible refine ObjAt.drew ?_; exact objNew (by simp)) | exact objNew (by simp)); rintro e1 w1 ⟨rfl, rfl⟩))
        go_wp2_with fail
        refine (MK.out _).mono ?_
        rintro e w4 ⟨rfl, hb4⟩
        have hB4 : Below w.heap.size w w4 := by
          refine Below.trans ?_ (Below.mono hb4 ?_)
          · go_grown
          · first | omega | (simp; done) | (simp; omega)
        have o4_r : ObjAt w4 (w.heap.size) 47 [.int .i64 e, .int .i64 k, .int .i64 o] := ObjAt.below (ObjAt.drew (ObjAt.alloc (ObjAt.alloc (H1_r.out) _) _)) hb4
        have o4_t : ObjAt w4 (w.heap.size + 1) 73 [.int .i64 te, .int .i64 ta, .int .i64 tt0, .int .i64 tg] := ObjAt.below (ObjAt.drew (ObjAt.alloc (ObjAt.alloc (H1_t.out) _) _)) hb4
        have o4_want : ObjAt w4 (w1.heap.size) 73 [.int .i64 e, .int .i64 a, .int .i64 tm, .int .i64 g] := ObjAt.below (ObjAt.drew (ObjAt.alloc (objNew (by simp)) _)) hb4
        clear q1_r_0 q1_r_1 q1_r_2 H1_r q1_t_0 q1_t_1 q1_t_2 q1_t_3 H1_t
        have q4_r_0 := o4_r.cell (i := 0) rfl
        have q4_r_1 := o4_r.cell (i := 1) rfl
        have q4_r_2 := o4_r.cell (i := 2) rfl
        have l4_r := o4_r.lt
        have H4_r := hide o4_r
        clear o4_r
        have q4_t_0 := o4_t.cell (i := 0) rfl
        have q4_t_1 := o4_t.cell (i := 1) rfl
        have q4_t_2 := o4_t.cell (i := 2) rfl
        have q4_t_3 := o4_t.cell (i := 3) rfl
        have l4_t := o4_t.lt
        have H4_t := hide o4_t
        clear o4_t
        have q4_want_0 := o4_want.cell (i := 0) rfl
        have f4_want_0 := o4_want.free 0
        have q4_want_1 := o4_want.cell (i := 1) rfl
        have f4_want_1 := o4_want.free 1
        have q4_want_2 := o4_want.cell (i := 2) rfl
        have f4_want_2 := o4_want.free 2
        have q4_want_3 := o4_want.cell (i := 3) rfl
        have f4_want_3 := o4_want.free 3
        have l4_want := o4_want.lt
        have H4_want := hide o4_want
        clear o4_want
        have hy4 : w.heap.size ≤ w4.heap.size := hB4.size
        clear hb4
        go_wp2_with fail
        refine (error_any 0 0 _ (hE.below (B := w.heap.size) (by go_grown) hE.pos)).mono ?_
        rintro e w5 ⟨rfl, hb5⟩
        have hB5 : Below w.heap.size w w5 := by
          refine Below.trans ?_ (Below.mono hb5 ?_)
          · go_grown
          · first | omega | (simp; done) | (simp; omega)
        have o5_r : ObjAt w5 (w.heap.size) 47 [.int .i64 e, .int .i64 k, .int .i64 o] := ObjAt.below (ObjAt.alloc (H4_r.out) _) hb5
        have o5_t : ObjAt w5 (w.heap.size + 1) 73 [.int .i64 te, .int .i64 ta, .int .i64 tt0, .int .i64 tg] := ObjAt.below (ObjAt.alloc (H4_t.out) _) hb5
        have o5_want : ObjAt w5 (w1.heap.size) 73 [.int .i64 e, .int .i64 a, .int .i64 tm, .int .i64 g] := ObjAt.below (ObjAt.alloc (H4_want.out) _) hb5
        have o5_x : ObjAt w5 (w4.heap.size) 73 [.int .i64 e, .int .i64 a, .int .i64 tm, .int .i64 g] := ObjAt.below (objNew (by simp)) hb5
        clear q4_r_0 q4_r_1 q4_r_2 H4_r q4_t_0 q4_t_1 q4_t_2 q4_t_3 H4_t q4_want_0 f4_want_0 q4_want_1 f4_want_1 q4_want_2 f4_want_2 q4_want_3 f4_want_3 H4_want
        have q5_r_0 := o5_r.cell (i := 0) rfl
        have q5_r_1 := o5_r.cell (i := 1) rfl
        have q5_r_2 := o5_r.cell (i := 2) rfl
        have l5_r := o5_r.lt
        have H5_r := hide o5_r
        clear o5_r
        have q5_t_0 := o5_t.cell (i := 0) rfl
        have q5_t_1 := o5_t.cell (i := 1) rfl
        have q5_t_2 := o5_t.cell (i := 2) rfl
        have q5_t_3 := o5_t.cell (i := 3) rfl
        have l5_t := o5_t.lt
        have H5_t := hide o5_t
        clear o5_t
        have q5_want_0 := o5_want.cell (i := 0) rfl
        have f5_want_0 := o5_want.free 0
        have q5_want_1 := o5_want.cell (i := 1) rfl
        have f5_want_1 := o5_want.free 1
        have q5_want_2 := o5_want.cell (i := 2) rfl
        have f5_want_2 := o5_want.free 2
        have q5_want_3 := o5_want.cell (i := 3) rfl
        have f5_want_3 := o5_want.free 3
        have l5_want := o5_want.lt
        have H5_want := hide o5_want
        clear o5_want
        have q5_x_0 := o5_x.cell (i := 0) rfl
        have f5_x_0 := o5_x.free 0
        have q5_x_1 := o5_x.cell (i := 1) rfl
        have f5_x_1 := o5_x.free 1
        have q5_x_2 := o5_x.cell (i := 2) rfl
        have f5_x_2 := o5_x.free 2
        have q5_x_3 := o5_x.cell (i := 3) rfl
        have f5_x_3 := o5_x.free 3
        have l5_x := o5_x.lt
        have H5_x := hide o5_x
        clear o5_x
        have hy5 : w.heap.size ≤ w5.heap.size := hB5.size
        clear hb5
        go_wp2_with fail
        go_region_held3 (fun w' => w'.cell? ⟨w.heap.size, 0, none⟩ = some (.int .i64 e) ∧ w'.cell? ⟨w.heap.size, 1, none⟩ = some (.int .i64 k) ∧ w'.cell? ⟨w.heap.size, 2, none⟩ = some (.int .i64 o) ∧ w'.cell? ⟨w.heap.size + 1, 0, none⟩ = some (.int .i64 te) ∧ w'.cell? ⟨w.heap.size + 1, 1, none⟩ = some (.int .i64 ta) ∧ w'.cell? ⟨w.heap.size + 1, 2, none⟩ = some (.int .i64 tt0) ∧ w'.cell? ⟨w.heap.size + 1, 3, none⟩ = some (.int .i64 tg)) (go_keep) (first
          | (go_at_call 40; refine (CK.out _).mono ?_; rintro e w6 ⟨rfl, hb6⟩; have hB6 : Below w.heap.size w w6 := (by refine Below.trans ?_ (Below.mono hb6 ?_); (first | exact hB5.drew | go_grown); (first | omega | (simp; done) | (simp; omega))); have c6 : ∀ b o, b < w5.heap.size → w6.cell? ⟨b, o, none⟩ = w5.cell? ⟨b, o, none⟩ := (bcell hb6).1; have l6_r : w.heap.size < w6.heap.size := Nat.lt_of_lt_of_le (by assumption) hb6.size; have l6_t : w.heap.size + 1 < w6.heap.size := Nat.lt_of_lt_of_le (by assumption) hb6.size)
          | (go_at_call 41; refine (RK.out _).mono ?_; rintro e w7 ⟨rfl, hb7⟩; have hB7 : Below w.heap.size w w7 := (by refine Below.trans ?_ (Below.mono hb7 ?_); (first | exact hB6 | go_grown); (first | omega | (simp; done) | (simp; omega))); have c7 : ∀ b o, b < w6.heap.size → w7.cell? ⟨b, o, none⟩ = w6.cell? ⟨b, o, none⟩ := (bcell hb7).1; have l7_r : w.heap.size < w7.heap.size := Nat.lt_of_lt_of_le (by assumption) hb7.size; have l7_t : w.heap.size + 1 < w7.heap.size := Nat.lt_of_lt_of_le (by assumption) hb7.size)
          | (go_at_call 16; refine (error_any fc fc _ (hE.below (B := w.heap.size) (by assumption) hE.pos)).mono ?_; rintro e w8 ⟨rfl, hb8⟩; have hB8 : Below w.heap.size w w8 := (by refine Below.trans ?_ (Below.mono hb8 ?_); (first | exact hB7 | go_grown); (first | omega | (simp; done) | (simp; omega))); have c8 : ∀ b o, b < w7.heap.size → w8.cell? ⟨b, o, none⟩ = w7.cell? ⟨b, o, none⟩ := (bcell hb8).1; have l8_r : w.heap.size < w8.heap.size := Nat.lt_of_lt_of_le (by assumption) hb8.size; have l8_t : w.heap.size + 1 < w8.heap.size := Nat.lt_of_lt_of_le (by assumption) hb8.size))
        have o8_r : ObjAt w8 (w.heap.size) 47 [.int .i64 e, .int .i64 k, .int .i64 o] := ObjAt.below (ObjAt.below (ObjAt.below (ObjAt.drew (H5_r.out)) hb6) hb7) hb8
        have o8_t : ObjAt w8 (w.heap.size + 1) 73 [.int .i64 te, .int .i64 ta, .int .i64 tt0, .int .i64 tg] := ObjAt.below (ObjAt.below (ObjAt.below (ObjAt.drew (H5_t.out)) hb6) hb7) hb8
        have o8_want : ObjAt w8 (w1.heap.size) 73 [.int .i64 e, .int .i64 a, .int .i64 tm, .int .i64 g] := ObjAt.below (ObjAt.below (ObjAt.below (ObjAt.drew (H5_want.out)) hb6) hb7) hb8
        have o8_x : ObjAt w8 (w4.heap.size) 73 [.int .i64 e, .int .i64 a, .int .i64 tm, .int .i64 g] := ObjAt.below (ObjAt.below (ObjAt.below (ObjAt.drew (H5_x.out)) hb6) hb7) hb8
        clear q5_r_0 q5_r_1 q5_r_2 H5_r q5_t_0 q5_t_1 q5_t_2 q5_t_3 H5_t q5_want_0 f5_want_0 q5_want_1 f5_want_1 q5_want_2 f5_want_2 q5_want_3 f5_want_3 H5_want q5_x_0 f5_x_0 q5_x_1 f5_x_1 q5_x_2 f5_x_2 q5_x_3 f5_x_3 H5_x
        have q8_r_0 := o8_r.cell (i := 0) rfl
        have q8_r_1 := o8_r.cell (i := 1) rfl
        have q8_r_2 := o8_r.cell (i := 2) rfl
        have H8_r := hide o8_r
        clear o8_r
        have q8_t_0 := o8_t.cell (i := 0) rfl
        have q8_t_1 := o8_t.cell (i := 1) rfl
        have q8_t_2 := o8_t.cell (i := 2) rfl
        have q8_t_3 := o8_t.cell (i := 3) rfl
        have H8_t := hide o8_t
        clear o8_t
        have q8_want_0 := o8_want.cell (i := 0) rfl
        have f8_want_0 := o8_want.free 0
        have q8_want_1 := o8_want.cell (i := 1) rfl
        have f8_want_1 := o8_want.free 1
        have q8_want_2 := o8_want.cell (i := 2) rfl
        have f8_want_2 := o8_want.free 2
        have q8_want_3 := o8_want.cell (i := 3) rfl
        have f8_want_3 := o8_want.free 3
        have H8_want := hide o8_want
        clear o8_want
        have q8_x_0 := o8_x.cell (i := 0) rfl
        have f8_x_0 := o8_x.free 0
        have q8_x_1 := o8_x.cell (i := 1) rfl
        have f8_x_1 := o8_x.free 1
        have q8_x_2 := o8_x.cell (i := 2) rfl
        have f8_x_2 := o8_x.free 2
        have q8_x_3 := o8_x.cell (i := 3) rfl
        have f8_x_3 := o8_x.free 3
        have H8_x := hide o8_x
        clear o8_x
        have hy8 : w.heap.size ≤ w8.heap.size := hB8.size
        clear hb6 c6 hb7 c7 hb8 c8
        go_wp2
        go_ret
        exact ⟨rfl, by go_grown⟩
  · have t1 : (rc == 0) = false := beq_eq_false_iff_ne.2 h0
    have t2 : (rc != 0) = true := bne_iff_ne.2 h0
    have MK := hide (fun W => tokenMake_bad (a := a) (t := tm) (c := rc) (by unfold tomE; rw [if_pos (by rw [hr]; exact h0), hr]) h0 W)
    clear hr h0
    go_enter Tryd.func9, Tryd.ntmps9
    go_wp2_with fail
    refine (RR.out _).mono ?_
    rintro e w1 ⟨rfl, hb1⟩
    have hB1 : Below w.heap.size w w1 := by
      refine Below.trans ?_ (Below.mono hb1 ?_)
      · go_grown
      · first | omega | (simp; done) | (simp; omega)
    have o1_r : ObjAt w1 (w.heap.size) 47 [.int .i64 e, .int .i64 k, .int .i64 o] := ObjAt.below (ObjAt.alloc (objNew (by simp)) _) hb1
    have o1_t : ObjAt w1 (w.heap.size + 1) 73 [.int .i64 te, .int .i64 ta, .int .i64 tt0, .int .i64 tg] := ObjAt.below (objNew (by simp)) hb1
    have q1_r_0 := o1_r.cell (i := 0) rfl
    have q1_r_1 := o1_r.cell (i := 1) rfl
    have q1_r_2 := o1_r.cell (i := 2) rfl
    have l1_r := o1_r.lt
    have H1_r := hide o1_r
    clear o1_r
    have q1_t_0 := o1_t.cell (i := 0) rfl
    have q1_t_1 := o1_t.cell (i := 1) rfl
    have q1_t_2 := o1_t.cell (i := 2) rfl
    have q1_t_3 := o1_t.cell (i := 3) rfl
    have l1_t := o1_t.lt
    have H1_t := hide o1_t
    clear o1_t
    have hy1 : w.heap.size ≤ w1.heap.size := hB1.size
    clear hb1
    go_wp2_with fail
    refine (RA.out _).mono ?_
    rintro e w502 ⟨rfl, rfl⟩
    go_wp2_with fail
    refine (RT.out _).mono ?_
    rintro e w503 ⟨rfl, rfl⟩
    go_wp2_with fail
    refine (MK.out _).mono ?_
    rintro e w4 ⟨rfl, hb4⟩
    have hB4 : Below w.heap.size w w4 := by
      refine Below.trans ?_ (Below.mono hb4 ?_)
      · go_grown
      · first | omega | (simp; done) | (simp; omega)
    have o4_r : ObjAt w4 (w.heap.size) 47 [.int .i64 e, .int .i64 k, .int .i64 o] := ObjAt.below (ObjAt.alloc (H1_r.out) _) hb4
    have o4_t : ObjAt w4 (w.heap.size + 1) 73 [.int .i64 te, .int .i64 ta, .int .i64 tt0, .int .i64 tg] := ObjAt.below (ObjAt.alloc (H1_t.out) _) hb4
    have o4_want : ObjAt w4 (w1.heap.size) 73 [.int .i64 0, .int .i64 0, .int .i64 0, .int .i64 0] := ObjAt.below (objNew (by simp)) hb4
    clear q1_r_0 q1_r_1 q1_r_2 H1_r q1_t_0 q1_t_1 q1_t_2 q1_t_3 H1_t
    have q4_r_0 := o4_r.cell (i := 0) rfl
    have q4_r_1 := o4_r.cell (i := 1) rfl
    have q4_r_2 := o4_r.cell (i := 2) rfl
    have l4_r := o4_r.lt
    have H4_r := hide o4_r
    clear o4_r
    have q4_t_0 := o4_t.cell (i := 0) rfl
    have q4_t_1 := o4_t.cell (i := 1) rfl
    have q4_t_2 := o4_t.cell (i := 2) rfl
    have q4_t_3 := o4_t.cell (i := 3) rfl
    have l4_t := o4_t.lt
    have H4_t := hide o4_t
    clear o4_t
    have q4_want_0 := o4_want.cell (i := 0) rfl
    have f4_want_0 := o4_want.free 0
    have q4_want_1 := o4_want.cell (i := 1) rfl
    have f4_want_1 := o4_want.free 1
    have q4_want_2 := o4_want.cell (i := 2) rfl
    have f4_want_2 := o4_want.free 2
    have q4_want_3 := o4_want.cell (i := 3) rfl
    have f4_want_3 := o4_want.free 3
    have l4_want := o4_want.lt
    have H4_want := hide o4_want
    clear o4_want
    have hy4 : w.heap.size ≤ w4.heap.size := hB4.size
    clear hb4
    go_wp2_with fail
    refine (error_any rc rc _ (hE.below (B := w.heap.size) (by go_grown) hE.pos)).mono ?_
    rintro e w5 ⟨rfl, hb5⟩
    have hB5 : Below w.heap.size w w5 := by
      refine Below.trans ?_ (Below.mono hb5 ?_)
      · go_grown
      · first | omega | (simp; done) | (simp; omega)
    have o5_r : ObjAt w5 (w.heap.size) 47 [.int .i64 e, .int .i64 k, .int .i64 o] := ObjAt.below (ObjAt.alloc (H4_r.out) _) hb5
    have o5_t : ObjAt w5 (w.heap.size + 1) 73 [.int .i64 te, .int .i64 ta, .int .i64 tt0, .int .i64 tg] := ObjAt.below (ObjAt.alloc (H4_t.out) _) hb5
    have o5_want : ObjAt w5 (w1.heap.size) 73 [.int .i64 0, .int .i64 0, .int .i64 0, .int .i64 0] := ObjAt.below (ObjAt.alloc (H4_want.out) _) hb5
    have o5_x : ObjAt w5 (w4.heap.size) 73 [.int .i64 0, .int .i64 0, .int .i64 0, .int .i64 0] := ObjAt.below (objNew (by simp)) hb5
    clear q4_r_0 q4_r_1 q4_r_2 H4_r q4_t_0 q4_t_1 q4_t_2 q4_t_3 H4_t q4_want_0 f4_want_0 q4_want_1 f4_want_1 q4_want_2 f4_want_2 q4_want_3 f4_want_3 H4_want
    have q5_r_0 := o5_r.cell (i := 0) rfl
    have q5_r_1 := o5_r.cell (i := 1) rfl
    have q5_r_2 := o5_r.cell (i := 2) rfl
    have l5_r := o5_r.lt
    have H5_r := hide o5_r
    clear o5_r
    have q5_t_0 := o5_t.cell (i := 0) rfl
    have q5_t_1 := o5_t.cell (i := 1) rfl
    have q5_t_2 := o5_t.cell (i := 2) rfl
    have q5_t_3 := o5_t.cell (i := 3) rfl
    have l5_t := o5_t.lt
    have H5_t := hide o5_t
    clear o5_t
    have q5_want_0 := o5_want.cell (i := 0) rfl
    have f5_want_0 := o5_want.free 0
    have q5_want_1 := o5_want.cell (i := 1) rfl
    have f5_want_1 := o5_want.free 1
    have q5_want_2 := o5_want.cell (i := 2) rfl
    have f5_want_2 := o5_want.free 2
    have q5_want_3 := o5_want.cell (i := 3) rfl
    have f5_want_3 := o5_want.free 3
    have l5_want := o5_want.lt
    have H5_want := hide o5_want
    clear o5_want
    have q5_x_0 := o5_x.cell (i := 0) rfl
    have f5_x_0 := o5_x.free 0
    have q5_x_1 := o5_x.cell (i := 1) rfl
    have f5_x_1 := o5_x.free 1
    have q5_x_2 := o5_x.cell (i := 2) rfl
    have f5_x_2 := o5_x.free 2
    have q5_x_3 := o5_x.cell (i := 3) rfl
    have f5_x_3 := o5_x.free 3
    have l5_x := o5_x.lt
    have H5_x := hide o5_x
    clear o5_x
    have hy5 : w.heap.size ≤ w5.heap.size := hB5.size
    clear hb5
    go_wp2_with fail
    go_region_held3 (fun w' => w'.cell? ⟨w.heap.size, 0, none⟩ = some (.int .i64 e) ∧ w'.cell? ⟨w.heap.size, 1, none⟩ = some (.int .i64 k) ∧ w'.cell? ⟨w.heap.size, 2, none⟩ = some (.int .i64 o) ∧ w'.cell? ⟨w.heap.size + 1, 0, none⟩ = some (.int .i64 te) ∧ w'.cell? ⟨w.heap.size + 1, 1, none⟩ = some (.int .i64 ta) ∧ w'.cell? ⟨w.heap.size + 1, 2, none⟩ = some (.int .i64 tt0) ∧ w'.cell? ⟨w.heap.size + 1, 3, none⟩ = some (.int .i64 tg)) (go_keep) (first
      | (go_at_call 40; refine (CK.out _).mono ?_; rintro e w6 ⟨rfl, hb6⟩; have hB6 : Below w.heap.size w w6 := (by refine Below.trans ?_ (Below.mono hb6 ?_); (first | exact hB5.drew | go_grown); (first | omega | (simp; done) | (simp; omega))); have c6 : ∀ b o, b < w5.heap.size → w6.cell? ⟨b, o, none⟩ = w5.cell? ⟨b, o, none⟩ := (bcell hb6).1; have l6_r : w.heap.size < w6.heap.size := Nat.lt_of_lt_of_le (by assumption) hb6.size; have l6_t : w.heap.size + 1 < w6.heap.size := Nat.lt_of_lt_of_le (by assumption) hb6.size)
      | (go_at_call 41; refine (RK.out _).mono ?_; rintro e w7 ⟨rfl, hb7⟩; have hB7 : Below w.heap.size w w7 := (by refine Below.trans ?_ (Below.mono hb7 ?_); (first | exact hB6 | go_grown); (first | omega | (simp; done) | (simp; omega))); have c7 : ∀ b o, b < w6.heap.size → w7.cell? ⟨b, o, none⟩ = w6.cell? ⟨b, o, none⟩ := (bcell hb7).1; have l7_r : w.heap.size < w7.heap.size := Nat.lt_of_lt_of_le (by assumption) hb7.size; have l7_t : w.heap.size + 1 < w7.heap.size := Nat.lt_of_lt_of_le (by assumption) hb7.size)
      | (go_at_call 16; refine (error_any fc fc _ (hE.below (B := w.heap.size) (by assumption) hE.pos)).mono ?_; rintro e w8 ⟨rfl, hb8⟩; have hB8 : Below w.heap.size w w8 := (by refine Below.trans ?_ (Below.mono hb8 ?_); (first | exact hB7 | go_grown); (first | omega | (simp; done) | (simp; omega))); have c8 : ∀ b o, b < w7.heap.size → w8.cell? ⟨b, o, none⟩ = w7.cell? ⟨b, o, none⟩ := (bcell hb8).1; have l8_r : w.heap.size < w8.heap.size := Nat.lt_of_lt_of_le (by assumption) hb8.size; have l8_t : w.heap.size + 1 < w8.heap.size := Nat.lt_of_lt_of_le (by assumption) hb8.size))
    have o8_r : ObjAt w8 (w.heap.size) 47 [.int .i64 e, .int .i64 k, .int .i64 o] := ObjAt.below (ObjAt.below (ObjAt.below (ObjAt.drew (H5_r.out)) hb6) hb7) hb8
    have o8_t : ObjAt w8 (w.heap.size + 1) 73 [.int .i64 te, .int .i64 ta, .int .i64 tt0, .int .i64 tg] := ObjAt.below (ObjAt.below (ObjAt.below (ObjAt.drew (H5_t.out)) hb6) hb7) hb8
    have o8_want : ObjAt w8 (w1.heap.size) 73 [.int .i64 0, .int .i64 0, .int .i64 0, .int .i64 0] := ObjAt.below (ObjAt.below (ObjAt.below (ObjAt.drew (H5_want.out)) hb6) hb7) hb8
    have o8_x : ObjAt w8 (w4.heap.size) 73 [.int .i64 0, .int .i64 0, .int .i64 0, .int .i64 0] := ObjAt.below (ObjAt.below (ObjAt.below (ObjAt.drew (H5_x.out)) hb6) hb7) hb8
    clear q5_r_0 q5_r_1 q5_r_2 H5_r q5_t_0 q5_t_1 q5_t_2 q5_t_3 H5_t q5_want_0 f5_want_0 q5_want_1 f5_want_1 q5_want_2 f5_want_2 q5_want_3 f5_want_3 H5_want q5_x_0 f5_x_0 q5_x_1 f5_x_1 q5_x_2 f5_x_2 q5_x_3 f5_x_3 H5_x
    have q8_r_0 := o8_r.cell (i := 0) rfl
    have q8_r_1 := o8_r.cell (i := 1) rfl
    have q8_r_2 := o8_r.cell (i := 2) rfl
    have H8_r := hide o8_r
    clear o8_r
    have q8_t_0 := o8_t.cell (i := 0) rfl
    have q8_t_1 := o8_t.cell (i := 1) rfl
    have q8_t_2 := o8_t.cell (i := 2) rfl
    have q8_t_3 := o8_t.cell (i := 3) rfl
    have H8_t := hide o8_t
    clear o8_t
    have q8_want_0 := o8_want.cell (i := 0) rfl
    have f8_want_0 := o8_want.free 0
    have q8_want_1 := o8_want.cell (i := 1) rfl
    have f8_want_1 := o8_want.free 1
    have q8_want_2 := o8_want.cell (i := 2) rfl
    have f8_want_2 := o8_want.free 2
    have q8_want_3 := o8_want.cell (i := 3) rfl
    have f8_want_3 := o8_want.free 3
    have H8_want := hide o8_want
    clear o8_want
    have q8_x_0 := o8_x.cell (i := 0) rfl
    have f8_x_0 := o8_x.free 0
    have q8_x_1 := o8_x.cell (i := 1) rfl
    have f8_x_1 := o8_x.free 1
    have q8_x_2 := o8_x.cell (i := 2) rfl
    have f8_x_2 := o8_x.free 2
    have q8_x_3 := o8_x.cell (i := 3) rfl
    have f8_x_3 := o8_x.free 3
    have H8_x := hide o8_x
    clear o8_x
    have hy8 : w.heap.size ≤ w8.heap.size := hB8.size
    clear hb6 c6 hb7 c7 hb8 c8
    go_wp2
    go_ret
    exact ⟨rfl, by go_grown⟩
end Go.Proofs.YtelegodagepeeaaDoor
