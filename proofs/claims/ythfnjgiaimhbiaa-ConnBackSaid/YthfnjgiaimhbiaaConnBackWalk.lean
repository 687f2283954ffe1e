/- The walk of ConnBack. -/
import Derived.Test.YthfnjgiaimhbiaaConn
namespace Go.Proofs.Ythfnjgiaimhbiaa
open Go.RowKit

set_option maxHeartbeats 4000000 in
theorem walkConnBack (w : World) (a0 a1 : Int) (_w0 : (Lit.int .i64 a0).wf = true) (_w1 : (Lit.int .i64 a1).wf = true) (b0 b1 : Int) (_v0 : (Lit.int .i64 b0).wf = true) (_v1 : (Lit.int .i64 b1).wf = true) (n : Int) (_wn : (Lit.int .i64 n).wf = true) (sh : Int) (_ws : (Lit.int .i64 sh).wf = true) :
    Calls Try.prog 9 #[.agg #[.int .i64 a0, .int .i64 a1], .agg #[.int .i64 b0, .int .i64 b1], .int .i64 n, .int .i64 sh] w fun e w' => e = .returned (.bool true) ∧ Below w.heap.size w w' := by
  have N0 : Hid (∀ W, Calls Try.prog 27 #[.agg #[.int .i64 0, .int .i64 0]] W fun e w' => e = .returned (.tuple #[.int .i64 21845, .nilIface]) ∧ Below W.heap.size W w') := hide (connNumber_eq (c := 0) (by decide))
  by_cases hn : 0 ≤ n ∧ n < 65536
  · obtain ⟨xs, xm, hx1, hx2, hx3⟩ := connOf_right n hn.1 hn.2
    have OX : Hid (∀ W, Calls Try.prog 28 #[.int .i64 n] W fun e w' => e = .returned (.tuple #[.agg #[.int .i64 xs, .int .i64 xm], .nilIface]) ∧ Below W.heap.size W w') := hide (connOf_eq (c := 0) hx1)
    have NX : Hid (∀ W, Calls Try.prog 27 #[.agg #[.int .i64 xs, .int .i64 xm]] W fun e w' => e = .returned (.tuple #[.int .i64 n, .nilIface]) ∧ Below W.heap.size W w') := hide (connNumber_eq (c := 0) (by simp [connNum, hx2, hx3]))
    clear hx1 hx2 hx3 hn
    cases hc : connB a0 a1
    · have NA : Hid (∀ W, Calls Try.prog 27 #[.agg #[.int .i64 a0, .int .i64 a1]] W fun e w' => e = .returned (.tuple #[.int .i64 0, .iface 58 (.int .i64 1)]) ∧ Below W.heap.size W w') := hide (connNumber_eq (c := 1) (by simp [connNum, hc]))
      clear hc
      go_enter Try.func9, Try.ntmps9
      go_wp2_with fail
      refine (N0.out _).mono ?_
      rintro e w1 ⟨rfl, hb1⟩
      have hz1 : w.heap.size + 1 < w1.heap.size := by have := hb1.size; first | omega | (simp at this; omega)
      have hy1 : w.heap.size < w1.heap.size := by omega
      have hB1 : Below w.heap.size w w1 := by
        refine Below.trans ?_ (Below.mono hb1 ?_)
        · go_grown
        · first | omega | (simp; done) | (simp; omega)
      obtain ⟨c1, d1⟩ := bcell hb1
      go_wp2_with fail
      refine (OX.out _).mono ?_
      rintro e w2 ⟨rfl, hb2⟩
      have hz2 : w.heap.size + 1 < w2.heap.size := by have := hb2.size; first | omega | (simp at this; omega)
      have hy2 : w.heap.size < w2.heap.size := by omega
      have hB2 : Below w.heap.size w w2 := by
        refine Below.trans ?_ (Below.mono hb2 ?_)
        · go_grown
        · first | omega | (simp; done) | (simp; omega)
      obtain ⟨c2, d2⟩ := bcell hb2
      go_wp2_with fail
      refine (NX.out _).mono ?_
      rintro e w3 ⟨rfl, hb3⟩
      have hz3 : w.heap.size + 1 < w3.heap.size := by have := hb3.size; first | omega | (simp at this; omega)
      have hy3 : w.heap.size < w3.heap.size := by omega
      have hB3 : Below w.heap.size w w3 := by
        refine Below.trans ?_ (Below.mono hb3 ?_)
        · go_grown
        · first | omega | (simp; done) | (simp; omega)
      obtain ⟨c3, d3⟩ := bcell hb3
      go_wp2_with fail
      refine (NA.out _).mono ?_
      rintro e w4 ⟨rfl, hb4⟩
      have hz4 : w.heap.size + 1 < w4.heap.size := by have := hb4.size; first | omega | (simp at this; omega)
      have hy4 : w.heap.size < w4.heap.size := by omega
      have hB4 : Below w.heap.size w w4 := by
        refine Below.trans ?_ (Below.mono hb4 ?_)
        · go_grown
        · first | omega | (simp; done) | (simp; omega)
      obtain ⟨c4, d4⟩ := bcell hb4
      go_wp2
      all_goals go_ret
      all_goals exact ⟨rfl, by go_grown⟩
    · have hoa := connOf_back a0 a1 hc
      obtain ⟨va, hva⟩ : ∃ v, v = connN a0 a1 := ⟨_, rfl⟩
      rw [← hva] at hoa
      have NA : Hid (∀ W, Calls Try.prog 27 #[.agg #[.int .i64 a0, .int .i64 a1]] W fun e w' => e = .returned (.tuple #[.int .i64 va, .nilIface]) ∧ Below W.heap.size W w') := hide (connNumber_eq (c := 0) (by simp [connNum, hc, hva]))
      have OA : Hid (∀ W, Calls Try.prog 28 #[.int .i64 va] W fun e w' => e = .returned (.tuple #[.agg #[.int .i64 a0, .int .i64 a1], .nilIface]) ∧ Below W.heap.size W w') := hide (connOf_eq (c := 0) hoa)
      cases hd : connB b0 b1
      · have NB : Hid (∀ W, Calls Try.prog 27 #[.agg #[.int .i64 b0, .int .i64 b1]] W fun e w' => e = .returned (.tuple #[.int .i64 0, .iface 58 (.int .i64 1)]) ∧ Below W.heap.size W w') := hide (connNumber_eq (c := 1) (by simp [connNum, hd]))
        clear hc hd hoa hva
        go_enter Try.func9, Try.ntmps9
        go_wp2_with fail
        refine (N0.out _).mono ?_
        rintro e w1 ⟨rfl, hb1⟩
        have hz1 : w.heap.size + 1 < w1.heap.size := by have := hb1.size; first | omega | (simp at this; omega)
        have hy1 : w.heap.size < w1.heap.size := by omega
        have hB1 : Below w.heap.size w w1 := by
          refine Below.trans ?_ (Below.mono hb1 ?_)
          · go_grown
          · first | omega | (simp; done) | (simp; omega)
        obtain ⟨c1, d1⟩ := bcell hb1
        go_wp2_with fail
        refine (OX.out _).mono ?_
        rintro e w2 ⟨rfl, hb2⟩
        have hz2 : w.heap.size + 1 < w2.heap.size := by have := hb2.size; first | omega | (simp at this; omega)
        have hy2 : w.heap.size < w2.heap.size := by omega
        have hB2 : Below w.heap.size w w2 := by
          refine Below.trans ?_ (Below.mono hb2 ?_)
          · go_grown
          · first | omega | (simp; done) | (simp; omega)
        obtain ⟨c2, d2⟩ := bcell hb2
        go_wp2_with fail
        refine (NX.out _).mono ?_
        rintro e w3 ⟨rfl, hb3⟩
        have hz3 : w.heap.size + 1 < w3.heap.size := by have := hb3.size; first | omega | (simp at this; omega)
        have hy3 : w.heap.size < w3.heap.size := by omega
        have hB3 : Below w.heap.size w w3 := by
          refine Below.trans ?_ (Below.mono hb3 ?_)
          · go_grown
          · first | omega | (simp; done) | (simp; omega)
        obtain ⟨c3, d3⟩ := bcell hb3
        go_wp2_with fail
        refine (NA.out _).mono ?_
        rintro e w4 ⟨rfl, hb4⟩
        have hz4 : w.heap.size + 1 < w4.heap.size := by have := hb4.size; first | omega | (simp at this; omega)
        have hy4 : w.heap.size < w4.heap.size := by omega
        have hB4 : Below w.heap.size w w4 := by
          refine Below.trans ?_ (Below.mono hb4 ?_)
          · go_grown
          · first | omega | (simp; done) | (simp; omega)
        obtain ⟨c4, d4⟩ := bcell hb4
        go_wp2_with fail
        refine (OA.out _).mono ?_
        rintro e w5 ⟨rfl, hb5⟩
        have hz5 : w.heap.size + 1 < w5.heap.size := by have := hb5.size; first | omega | (simp at this; omega)
        have hy5 : w.heap.size < w5.heap.size := by omega
        have hB5 : Below w.heap.size w w5 := by
          refine Below.trans ?_ (Below.mono hb5 ?_)
          · go_grown
          · first | omega | (simp; done) | (simp; omega)
        obtain ⟨c5, d5⟩ := bcell hb5
        go_wp2_with fail
        refine (NB.out _).mono ?_
        rintro e w6 ⟨rfl, hb6⟩
        have hz6 : w.heap.size + 1 < w6.heap.size := by have := hb6.size; first | omega | (simp at this; omega)
        have hy6 : w.heap.size < w6.heap.size := by omega
        have hB6 : Below w.heap.size w w6 := by
          refine Below.trans ?_ (Below.mono hb6 ?_)
          · go_grown
          · first | omega | (simp; done) | (simp; omega)
        obtain ⟨c6, d6⟩ := bcell hb6
        go_wp2
        all_goals go_ret
        all_goals exact ⟨rfl, by go_grown⟩
      · by_cases same : a0 = b0 ∧ a1 = b1
        · obtain ⟨rfl, rfl⟩ := same
          obtain ⟨pv, pc, hp⟩ : ∃ pv pc, routeN va sh = (pv, pc) := ⟨_, _, rfl⟩
          have RA : Hid (∀ W, Calls Try.prog 29 #[.int .i64 va, .int .i64 sh] W fun e w' => e = .returned (.tuple #[.int .i64 pv, errV pc]) ∧ Below W.heap.size W w') := hide (connRoute_eq hp)
          clear hc hd hoa hva hp
          go_enter Try.func9, Try.ntmps9
          go_wp2_with fail
          refine (N0.out _).mono ?_
          rintro e w1 ⟨rfl, hb1⟩
          have hz1 : w.heap.size + 1 < w1.heap.size := by have := hb1.size; first | omega | (simp at this; omega)
          have hy1 : w.heap.size < w1.heap.size := by omega
          have hB1 : Below w.heap.size w w1 := by
            refine Below.trans ?_ (Below.mono hb1 ?_)
            · go_grown
            · first | omega | (simp; done) | (simp; omega)
          obtain ⟨c1, d1⟩ := bcell hb1
          go_wp2_with fail
          refine (OX.out _).mono ?_
          rintro e w2 ⟨rfl, hb2⟩
          have hz2 : w.heap.size + 1 < w2.heap.size := by have := hb2.size; first | omega | (simp at this; omega)
          have hy2 : w.heap.size < w2.heap.size := by omega
          have hB2 : Below w.heap.size w w2 := by
            refine Below.trans ?_ (Below.mono hb2 ?_)
            · go_grown
            · first | omega | (simp; done) | (simp; omega)
          obtain ⟨c2, d2⟩ := bcell hb2
          go_wp2_with fail
          refine (NX.out _).mono ?_
          rintro e w3 ⟨rfl, hb3⟩
          have hz3 : w.heap.size + 1 < w3.heap.size := by have := hb3.size; first | omega | (simp at this; omega)
          have hy3 : w.heap.size < w3.heap.size := by omega
          have hB3 : Below w.heap.size w w3 := by
            refine Below.trans ?_ (Below.mono hb3 ?_)
            · go_grown
            · first | omega | (simp; done) | (simp; omega)
          obtain ⟨c3, d3⟩ := bcell hb3
          go_wp2_with fail
          refine (NA.out _).mono ?_
          rintro e w4 ⟨rfl, hb4⟩
          have hz4 : w.heap.size + 1 < w4.heap.size := by have := hb4.size; first | omega | (simp at this; omega)
          have hy4 : w.heap.size < w4.heap.size := by omega
          have hB4 : Below w.heap.size w w4 := by
            refine Below.trans ?_ (Below.mono hb4 ?_)
            · go_grown
            · first | omega | (simp; done) | (simp; omega)
          obtain ⟨c4, d4⟩ := bcell hb4
          go_wp2_with fail
          refine (OA.out _).mono ?_
          rintro e w5 ⟨rfl, hb5⟩
          have hz5 : w.heap.size + 1 < w5.heap.size := by have := hb5.size; first | omega | (simp at this; omega)
          have hy5 : w.heap.size < w5.heap.size := by omega
          have hB5 : Below w.heap.size w w5 := by
            refine Below.trans ?_ (Below.mono hb5 ?_)
            · go_grown
            · first | omega | (simp; done) | (simp; omega)
          obtain ⟨c5, d5⟩ := bcell hb5
          go_wp2_with fail
          refine (NA.out _).mono ?_
          rintro e w6 ⟨rfl, hb6⟩
          have hz6 : w.heap.size + 1 < w6.heap.size := by have := hb6.size; first | omega | (simp at this; omega)
          have hy6 : w.heap.size < w6.heap.size := by omega
          have hB6 : Below w.heap.size w w6 := by
            refine Below.trans ?_ (Below.mono hb6 ?_)
            · go_grown
            · first | omega | (simp; done) | (simp; omega)
          obtain ⟨c6, d6⟩ := bcell hb6
          go_wp2_with fail
          refine (RA.out _).mono ?_
          rintro e w7 ⟨rfl, hb7⟩
          have hz7 : w.heap.size + 1 < w7.heap.size := by have := hb7.size; first | omega | (simp at this; omega)
          have hy7 : w.heap.size < w7.heap.size := by omega
          have hB7 : Below w.heap.size w w7 := by
            refine Below.trans ?_ (Below.mono hb7 ?_)
            · go_grown
            · first | omega | (simp; done) | (simp; omega)
          obtain ⟨c7, d7⟩ := bcell hb7
          go_wp2_with fail
          refine (RA.out _).mono ?_
          rintro e w8 ⟨rfl, hb8⟩
          have hz8 : w.heap.size + 1 < w8.heap.size := by have := hb8.size; first | omega | (simp at this; omega)
          have hy8 : w.heap.size < w8.heap.size := by omega
          have hB8 : Below w.heap.size w w8 := by
            refine Below.trans ?_ (Below.mono hb8 ?_)
            · go_grown
            · first | omega | (simp; done) | (simp; omega)
          obtain ⟨c8, d8⟩ := bcell hb8
          go_wp2_with fail
          go_quiet (fail)
          go_wp2
          go_ret
          exact ⟨rfl, bel_drewN hB8 _⟩
        · obtain ⟨vb, hvb⟩ : ∃ v, v = connN b0 b1 := ⟨_, rfl⟩
          have NB : Hid (∀ W, Calls Try.prog 27 #[.agg #[.int .i64 b0, .int .i64 b1]] W fun e w' => e = .returned (.tuple #[.int .i64 vb, .nilIface]) ∧ Below W.heap.size W w') := hide (connNumber_eq (c := 0) (by simp [connNum, hd, hvb]))
          have hob := connOf_back b0 b1 hd
          have hia := connN_in a0 a1 hc
          have hib := connN_in b0 b1 hd
          have t1 : (va == vb) = false := beq_eq_false_iff_ne.2 (fun h => same (connN_inj hc hd (by rw [← hva, ← hvb]; exact h)))
          rw [← hvb] at hob hib
          rw [← hva] at hia
          obtain ⟨pv, qv, pc, hp, hq, hpq⟩ : ∃ pv qv pc, routeN va sh = (pv, pc) ∧ routeN vb sh = (qv, pc) ∧ (a0 = b0 → pv = qv) := by
            by_cases hs : 1 ≤ sh ∧ sh ≤ 16
            · refine ⟨a0 % sh, b0 % sh, 0, by unfold routeN; rw [if_pos (by omega), hoa], by unfold routeN; rw [if_pos (by omega), hob], fun h => by rw [h]⟩
            · refine ⟨0, 0, 1, by unfold routeN; rw [if_neg (by omega)], by unfold routeN; rw [if_neg (by omega)], fun _ => rfl⟩
          have RA : Hid (∀ W, Calls Try.prog 29 #[.int .i64 va, .int .i64 sh] W fun e w' => e = .returned (.tuple #[.int .i64 pv, errV pc]) ∧ Below W.heap.size W w') := hide (connRoute_eq hp)
          have RB : Hid (∀ W, Calls Try.prog 29 #[.int .i64 vb, .int .i64 sh] W fun e w' => e = .returned (.tuple #[.int .i64 qv, errV pc]) ∧ Below W.heap.size W w') := hide (connRoute_eq hq)
          clear hc hd hoa hob hva hvb hp hq hia hib
          by_cases hs : a0 = b0
          · have t3 : (a1 == b1) = false := beq_eq_false_iff_ne.2 (fun h => same ⟨hs, h⟩)
            obtain rfl := hpq hs
            obtain rfl := hs
            clear same hpq
            go_enter Try.func9, Try.ntmps9
            go_wp2_with fail
            refine (N0.out _).mono ?_
            rintro e w1 ⟨rfl, hb1⟩
            have hz1 : w.heap.size + 1 < w1.heap.size := by have := hb1.size; first | omega | (simp at this; omega)
            have hy1 : w.heap.size < w1.heap.size := by omega
            have hB1 : Below w.heap.size w w1 := by
              refine Below.trans ?_ (Below.mono hb1 ?_)
              · go_grown
              · first | omega | (simp; done) | (simp; omega)
            obtain ⟨c1, d1⟩ := bcell hb1
            go_wp2_with fail
            refine (OX.out _).mono ?_
            rintro e w2 ⟨rfl, hb2⟩
            have hz2 : w.heap.size + 1 < w2.heap.size := by have := hb2.size; first | omega | (simp at this; omega)
            have hy2 : w.heap.size < w2.heap.size := by omega
            have hB2 : Below w.heap.size w w2 := by
              refine Below.trans ?_ (Below.mono hb2 ?_)
              · go_grown
              · first | omega | (simp; done) | (simp; omega)
            obtain ⟨c2, d2⟩ := bcell hb2
            go_wp2_with fail
            refine (NX.out _).mono ?_
            rintro e w3 ⟨rfl, hb3⟩
            have hz3 : w.heap.size + 1 < w3.heap.size := by have := hb3.size; first | omega | (simp at this; omega)
            have hy3 : w.heap.size < w3.heap.size := by omega
            have hB3 : Below w.heap.size w w3 := by
              refine Below.trans ?_ (Below.mono hb3 ?_)
              · go_grown
              · first | omega | (simp; done) | (simp; omega)
            obtain ⟨c3, d3⟩ := bcell hb3
            go_wp2_with fail
            refine (NA.out _).mono ?_
            rintro e w4 ⟨rfl, hb4⟩
            have hz4 : w.heap.size + 1 < w4.heap.size := by have := hb4.size; first | omega | (simp at this; omega)
            have hy4 : w.heap.size < w4.heap.size := by omega
            have hB4 : Below w.heap.size w w4 := by
              refine Below.trans ?_ (Below.mono hb4 ?_)
              · go_grown
              · first | omega | (simp; done) | (simp; omega)
            obtain ⟨c4, d4⟩ := bcell hb4
            go_wp2_with fail
            refine (OA.out _).mono ?_
            rintro e w5 ⟨rfl, hb5⟩
            have hz5 : w.heap.size + 1 < w5.heap.size := by have := hb5.size; first | omega | (simp at this; omega)
            have hy5 : w.heap.size < w5.heap.size := by omega
            have hB5 : Below w.heap.size w w5 := by
              refine Below.trans ?_ (Below.mono hb5 ?_)
              · go_grown
              · first | omega | (simp; done) | (simp; omega)
            obtain ⟨c5, d5⟩ := bcell hb5
            go_wp2_with fail
            refine (NB.out _).mono ?_
            rintro e w6 ⟨rfl, hb6⟩
            have hz6 : w.heap.size + 1 < w6.heap.size := by have := hb6.size; first | omega | (simp at this; omega)
            have hy6 : w.heap.size < w6.heap.size := by omega
            have hB6 : Below w.heap.size w w6 := by
              refine Below.trans ?_ (Below.mono hb6 ?_)
              · go_grown
              · first | omega | (simp; done) | (simp; omega)
            obtain ⟨c6, d6⟩ := bcell hb6
            go_wp2_with fail
            refine (RA.out _).mono ?_
            rintro e w7 ⟨rfl, hb7⟩
            have hz7 : w.heap.size + 1 < w7.heap.size := by have := hb7.size; first | omega | (simp at this; omega)
            have hy7 : w.heap.size < w7.heap.size := by omega
            have hB7 : Below w.heap.size w w7 := by
              refine Below.trans ?_ (Below.mono hb7 ?_)
              · go_grown
              · first | omega | (simp; done) | (simp; omega)
            obtain ⟨c7, d7⟩ := bcell hb7
            go_wp2_with fail
            refine (RB.out _).mono ?_
            rintro e w8 ⟨rfl, hb8⟩
            have hz8 : w.heap.size + 1 < w8.heap.size := by have := hb8.size; first | omega | (simp at this; omega)
            have hy8 : w.heap.size < w8.heap.size := by omega
            have hB8 : Below w.heap.size w w8 := by
              refine Below.trans ?_ (Below.mono hb8 ?_)
              · go_grown
              · first | omega | (simp; done) | (simp; omega)
            obtain ⟨c8, d8⟩ := bcell hb8
            go_wp2_with fail
            go_quiet (fail)
            go_wp2
            go_ret
            exact ⟨rfl, bel_drewN hB8 _⟩
          · have t2 : (a0 == b0) = false := beq_eq_false_iff_ne.2 hs
            clear same hpq
            go_enter Try.func9, Try.ntmps9
            go_wp2_with fail
            refine (N0.out _).mono ?_
            rintro e w1 ⟨rfl, hb1⟩
            have hz1 : w.heap.size + 1 < w1.heap.size := by have := hb1.size; first | omega | (simp at this; omega)
            have hy1 : w.heap.size < w1.heap.size := by omega
            have hB1 : Below w.heap.size w w1 := by
              refine Below.trans ?_ (Below.mono hb1 ?_)
              · go_grown
              · first | omega | (simp; done) | (simp; omega)
            obtain ⟨c1, d1⟩ := bcell hb1
            go_wp2_with fail
            refine (OX.out _).mono ?_
            rintro e w2 ⟨rfl, hb2⟩
            have hz2 : w.heap.size + 1 < w2.heap.size := by have := hb2.size; first | omega | (simp at this; omega)
            have hy2 : w.heap.size < w2.heap.size := by omega
            have hB2 : Below w.heap.size w w2 := by
              refine Below.trans ?_ (Below.mono hb2 ?_)
              · go_grown
              · first | omega | (simp; done) | (simp; omega)
            obtain ⟨c2, d2⟩ := bcell hb2
            go_wp2_with fail
            refine (NX.out _).mono ?_
            rintro e w3 ⟨rfl, hb3⟩
            have hz3 : w.heap.size + 1 < w3.heap.size := by have := hb3.size; first | omega | (simp at this; omega)
            have hy3 : w.heap.size < w3.heap.size := by omega
            have hB3 : Below w.heap.size w w3 := by
              refine Below.trans ?_ (Below.mono hb3 ?_)
              · go_grown
              · first | omega | (simp; done) | (simp; omega)
            obtain ⟨c3, d3⟩ := bcell hb3
            go_wp2_with fail
            refine (NA.out _).mono ?_
            rintro e w4 ⟨rfl, hb4⟩
            have hz4 : w.heap.size + 1 < w4.heap.size := by have := hb4.size; first | omega | (simp at this; omega)
            have hy4 : w.heap.size < w4.heap.size := by omega
            have hB4 : Below w.heap.size w w4 := by
              refine Below.trans ?_ (Below.mono hb4 ?_)
              · go_grown
              · first | omega | (simp; done) | (simp; omega)
            obtain ⟨c4, d4⟩ := bcell hb4
            go_wp2_with fail
            refine (OA.out _).mono ?_
            rintro e w5 ⟨rfl, hb5⟩
            have hz5 : w.heap.size + 1 < w5.heap.size := by have := hb5.size; first | omega | (simp at this; omega)
            have hy5 : w.heap.size < w5.heap.size := by omega
            have hB5 : Below w.heap.size w w5 := by
              refine Below.trans ?_ (Below.mono hb5 ?_)
              · go_grown
              · first | omega | (simp; done) | (simp; omega)
            obtain ⟨c5, d5⟩ := bcell hb5
            go_wp2_with fail
            refine (NB.out _).mono ?_
            rintro e w6 ⟨rfl, hb6⟩
            have hz6 : w.heap.size + 1 < w6.heap.size := by have := hb6.size; first | omega | (simp at this; omega)
            have hy6 : w.heap.size < w6.heap.size := by omega
            have hB6 : Below w.heap.size w w6 := by
              refine Below.trans ?_ (Below.mono hb6 ?_)
              · go_grown
              · first | omega | (simp; done) | (simp; omega)
            obtain ⟨c6, d6⟩ := bcell hb6
            go_wp2_with fail
            refine (RA.out _).mono ?_
            rintro e w7 ⟨rfl, hb7⟩
            have hz7 : w.heap.size + 1 < w7.heap.size := by have := hb7.size; first | omega | (simp at this; omega)
            have hy7 : w.heap.size < w7.heap.size := by omega
            have hB7 : Below w.heap.size w w7 := by
              refine Below.trans ?_ (Below.mono hb7 ?_)
              · go_grown
              · first | omega | (simp; done) | (simp; omega)
            obtain ⟨c7, d7⟩ := bcell hb7
            go_wp2_with fail
            refine (RB.out _).mono ?_
            rintro e w8 ⟨rfl, hb8⟩
            have hz8 : w.heap.size + 1 < w8.heap.size := by have := hb8.size; first | omega | (simp at this; omega)
            have hy8 : w.heap.size < w8.heap.size := by omega
            have hB8 : Below w.heap.size w w8 := by
              refine Below.trans ?_ (Below.mono hb8 ?_)
              · go_grown
              · first | omega | (simp; done) | (simp; omega)
            obtain ⟨c8, d8⟩ := bcell hb8
            go_wp2_with fail
            go_quiet (fail)
            go_wp2
            go_ret
            exact ⟨rfl, bel_drewN hB8 _⟩
  · have OX : Hid (∀ W, Calls Try.prog 28 #[.int .i64 n] W fun e w' => e = .returned (.tuple #[.agg #[.int .i64 0, .int .i64 0], .iface 58 (.int .i64 1)]) ∧ Below W.heap.size W w') := hide (connOf_eq (c := 1) (by unfold connOfN; rw [if_neg hn]))
    clear hn
    cases hc : connB a0 a1
    · have NA : Hid (∀ W, Calls Try.prog 27 #[.agg #[.int .i64 a0, .int .i64 a1]] W fun e w' => e = .returned (.tuple #[.int .i64 0, .iface 58 (.int .i64 1)]) ∧ Below W.heap.size W w') := hide (connNumber_eq (c := 1) (by simp [connNum, hc]))
      clear hc
      go_enter Try.func9, Try.ntmps9
      go_wp2_with fail
      refine (N0.out _).mono ?_
      rintro e w1 ⟨rfl, hb1⟩
      have hz1 : w.heap.size + 1 < w1.heap.size := by have := hb1.size; first | omega | (simp at this; omega)
      have hy1 : w.heap.size < w1.heap.size := by omega
      have hB1 : Below w.heap.size w w1 := by
        refine Below.trans ?_ (Below.mono hb1 ?_)
        · go_grown
        · first | omega | (simp; done) | (simp; omega)
      obtain ⟨c1, d1⟩ := bcell hb1
      go_wp2_with fail
      refine (OX.out _).mono ?_
      rintro e w2 ⟨rfl, hb2⟩
      have hz2 : w.heap.size + 1 < w2.heap.size := by have := hb2.size; first | omega | (simp at this; omega)
      have hy2 : w.heap.size < w2.heap.size := by omega
      have hB2 : Below w.heap.size w w2 := by
        refine Below.trans ?_ (Below.mono hb2 ?_)
        · go_grown
        · first | omega | (simp; done) | (simp; omega)
      obtain ⟨c2, d2⟩ := bcell hb2
      go_wp2_with fail
      refine (NA.out _).mono ?_
      rintro e w3 ⟨rfl, hb3⟩
      have hz3 : w.heap.size + 1 < w3.heap.size := by have := hb3.size; first | omega | (simp at this; omega)
      have hy3 : w.heap.size < w3.heap.size := by omega
      have hB3 : Below w.heap.size w w3 := by
        refine Below.trans ?_ (Below.mono hb3 ?_)
        · go_grown
        · first | omega | (simp; done) | (simp; omega)
      obtain ⟨c3, d3⟩ := bcell hb3
      go_wp2
      all_goals go_ret
      all_goals exact ⟨rfl, by go_grown⟩
    · have hoa := connOf_back a0 a1 hc
      obtain ⟨va, hva⟩ : ∃ v, v = connN a0 a1 := ⟨_, rfl⟩
      rw [← hva] at hoa
      have NA : Hid (∀ W, Calls Try.prog 27 #[.agg #[.int .i64 a0, .int .i64 a1]] W fun e w' => e = .returned (.tuple #[.int .i64 va, .nilIface]) ∧ Below W.heap.size W w') := hide (connNumber_eq (c := 0) (by simp [connNum, hc, hva]))
      have OA : Hid (∀ W, Calls Try.prog 28 #[.int .i64 va] W fun e w' => e = .returned (.tuple #[.agg #[.int .i64 a0, .int .i64 a1], .nilIface]) ∧ Below W.heap.size W w') := hide (connOf_eq (c := 0) hoa)
      cases hd : connB b0 b1
      · have NB : Hid (∀ W, Calls Try.prog 27 #[.agg #[.int .i64 b0, .int .i64 b1]] W fun e w' => e = .returned (.tuple #[.int .i64 0, .iface 58 (.int .i64 1)]) ∧ Below W.heap.size W w') := hide (connNumber_eq (c := 1) (by simp [connNum, hd]))
        clear hc hd hoa hva
        go_enter Try.func9, Try.ntmps9
        go_wp2_with fail
        refine (N0.out _).mono ?_
        rintro e w1 ⟨rfl, hb1⟩
        have hz1 : w.heap.size + 1 < w1.heap.size := by have := hb1.size; first | omega | (simp at this; omega)
        have hy1 : w.heap.size < w1.heap.size := by omega
        have hB1 : Below w.heap.size w w1 := by
          refine Below.trans ?_ (Below.mono hb1 ?_)
          · go_grown
          · first | omega | (simp; done) | (simp; omega)
        obtain ⟨c1, d1⟩ := bcell hb1
        go_wp2_with fail
        refine (OX.out _).mono ?_
        rintro e w2 ⟨rfl, hb2⟩
        have hz2 : w.heap.size + 1 < w2.heap.size := by have := hb2.size; first | omega | (simp at this; omega)
        have hy2 : w.heap.size < w2.heap.size := by omega
        have hB2 : Below w.heap.size w w2 := by
          refine Below.trans ?_ (Below.mono hb2 ?_)
          · go_grown
          · first | omega | (simp; done) | (simp; omega)
        obtain ⟨c2, d2⟩ := bcell hb2
        go_wp2_with fail
        refine (NA.out _).mono ?_
        rintro e w3 ⟨rfl, hb3⟩
        have hz3 : w.heap.size + 1 < w3.heap.size := by have := hb3.size; first | omega | (simp at this; omega)
        have hy3 : w.heap.size < w3.heap.size := by omega
        have hB3 : Below w.heap.size w w3 := by
          refine Below.trans ?_ (Below.mono hb3 ?_)
          · go_grown
          · first | omega | (simp; done) | (simp; omega)
        obtain ⟨c3, d3⟩ := bcell hb3
        go_wp2_with fail
        refine (OA.out _).mono ?_
        rintro e w4 ⟨rfl, hb4⟩
        have hz4 : w.heap.size + 1 < w4.heap.size := by have := hb4.size; first | omega | (simp at this; omega)
        have hy4 : w.heap.size < w4.heap.size := by omega
        have hB4 : Below w.heap.size w w4 := by
          refine Below.trans ?_ (Below.mono hb4 ?_)
          · go_grown
          · first | omega | (simp; done) | (simp; omega)
        obtain ⟨c4, d4⟩ := bcell hb4
        go_wp2_with fail
        refine (NB.out _).mono ?_
        rintro e w5 ⟨rfl, hb5⟩
        have hz5 : w.heap.size + 1 < w5.heap.size := by have := hb5.size; first | omega | (simp at this; omega)
        have hy5 : w.heap.size < w5.heap.size := by omega
        have hB5 : Below w.heap.size w w5 := by
          refine Below.trans ?_ (Below.mono hb5 ?_)
          · go_grown
          · first | omega | (simp; done) | (simp; omega)
        obtain ⟨c5, d5⟩ := bcell hb5
        go_wp2
        all_goals go_ret
        all_goals exact ⟨rfl, by go_grown⟩
      · by_cases same : a0 = b0 ∧ a1 = b1
        · obtain ⟨rfl, rfl⟩ := same
          obtain ⟨pv, pc, hp⟩ : ∃ pv pc, routeN va sh = (pv, pc) := ⟨_, _, rfl⟩
          have RA : Hid (∀ W, Calls Try.prog 29 #[.int .i64 va, .int .i64 sh] W fun e w' => e = .returned (.tuple #[.int .i64 pv, errV pc]) ∧ Below W.heap.size W w') := hide (connRoute_eq hp)
          clear hc hd hoa hva hp
          go_enter Try.func9, Try.ntmps9
          go_wp2_with fail
          refine (N0.out _).mono ?_
          rintro e w1 ⟨rfl, hb1⟩
          have hz1 : w.heap.size + 1 < w1.heap.size := by have := hb1.size; first | omega | (simp at this; omega)
          have hy1 : w.heap.size < w1.heap.size := by omega
          have hB1 : Below w.heap.size w w1 := by
            refine Below.trans ?_ (Below.mono hb1 ?_)
            · go_grown
            · first | omega | (simp; done) | (simp; omega)
          obtain ⟨c1, d1⟩ := bcell hb1
          go_wp2_with fail
          refine (OX.out _).mono ?_
          rintro e w2 ⟨rfl, hb2⟩
          have hz2 : w.heap.size + 1 < w2.heap.size := by have := hb2.size; first | omega | (simp at this; omega)
          have hy2 : w.heap.size < w2.heap.size := by omega
          have hB2 : Below w.heap.size w w2 := by
            refine Below.trans ?_ (Below.mono hb2 ?_)
            · go_grown
            · first | omega | (simp; done) | (simp; omega)
          obtain ⟨c2, d2⟩ := bcell hb2
          go_wp2_with fail
          refine (NA.out _).mono ?_
          rintro e w3 ⟨rfl, hb3⟩
          have hz3 : w.heap.size + 1 < w3.heap.size := by have := hb3.size; first | omega | (simp at this; omega)
          have hy3 : w.heap.size < w3.heap.size := by omega
          have hB3 : Below w.heap.size w w3 := by
            refine Below.trans ?_ (Below.mono hb3 ?_)
            · go_grown
            · first | omega | (simp; done) | (simp; omega)
          obtain ⟨c3, d3⟩ := bcell hb3
          go_wp2_with fail
          refine (OA.out _).mono ?_
          rintro e w4 ⟨rfl, hb4⟩
          have hz4 : w.heap.size + 1 < w4.heap.size := by have := hb4.size; first | omega | (simp at this; omega)
          have hy4 : w.heap.size < w4.heap.size := by omega
          have hB4 : Below w.heap.size w w4 := by
            refine Below.trans ?_ (Below.mono hb4 ?_)
            · go_grown
            · first | omega | (simp; done) | (simp; omega)
          obtain ⟨c4, d4⟩ := bcell hb4
          go_wp2_with fail
          refine (NA.out _).mono ?_
          rintro e w5 ⟨rfl, hb5⟩
          have hz5 : w.heap.size + 1 < w5.heap.size := by have := hb5.size; first | omega | (simp at this; omega)
          have hy5 : w.heap.size < w5.heap.size := by omega
          have hB5 : Below w.heap.size w w5 := by
            refine Below.trans ?_ (Below.mono hb5 ?_)
            · go_grown
            · first | omega | (simp; done) | (simp; omega)
          obtain ⟨c5, d5⟩ := bcell hb5
          go_wp2_with fail
          refine (RA.out _).mono ?_
          rintro e w6 ⟨rfl, hb6⟩
          have hz6 : w.heap.size + 1 < w6.heap.size := by have := hb6.size; first | omega | (simp at this; omega)
          have hy6 : w.heap.size < w6.heap.size := by omega
          have hB6 : Below w.heap.size w w6 := by
            refine Below.trans ?_ (Below.mono hb6 ?_)
            · go_grown
            · first | omega | (simp; done) | (simp; omega)
          obtain ⟨c6, d6⟩ := bcell hb6
          go_wp2_with fail
          refine (RA.out _).mono ?_
          rintro e w7 ⟨rfl, hb7⟩
          have hz7 : w.heap.size + 1 < w7.heap.size := by have := hb7.size; first | omega | (simp at this; omega)
          have hy7 : w.heap.size < w7.heap.size := by omega
          have hB7 : Below w.heap.size w w7 := by
            refine Below.trans ?_ (Below.mono hb7 ?_)
            · go_grown
            · first | omega | (simp; done) | (simp; omega)
          obtain ⟨c7, d7⟩ := bcell hb7
          go_wp2_with fail
          go_quiet (fail)
          go_wp2
          go_ret
          exact ⟨rfl, bel_drewN hB7 _⟩
        · obtain ⟨vb, hvb⟩ : ∃ v, v = connN b0 b1 := ⟨_, rfl⟩
          have NB : Hid (∀ W, Calls Try.prog 27 #[.agg #[.int .i64 b0, .int .i64 b1]] W fun e w' => e = .returned (.tuple #[.int .i64 vb, .nilIface]) ∧ Below W.heap.size W w') := hide (connNumber_eq (c := 0) (by simp [connNum, hd, hvb]))
          have hob := connOf_back b0 b1 hd
          have hia := connN_in a0 a1 hc
          have hib := connN_in b0 b1 hd
          have t1 : (va == vb) = false := beq_eq_false_iff_ne.2 (fun h => same (connN_inj hc hd (by rw [← hva, ← hvb]; exact h)))
          rw [← hvb] at hob hib
          rw [← hva] at hia
          obtain ⟨pv, qv, pc, hp, hq, hpq⟩ : ∃ pv qv pc, routeN va sh = (pv, pc) ∧ routeN vb sh = (qv, pc) ∧ (a0 = b0 → pv = qv) := by
            by_cases hs : 1 ≤ sh ∧ sh ≤ 16
            · refine ⟨a0 % sh, b0 % sh, 0, by unfold routeN; rw [if_pos (by omega), hoa], by unfold routeN; rw [if_pos (by omega), hob], fun h => by rw [h]⟩
            · refine ⟨0, 0, 1, by unfold routeN; rw [if_neg (by omega)], by unfold routeN; rw [if_neg (by omega)], fun _ => rfl⟩
          have RA : Hid (∀ W, Calls Try.prog 29 #[.int .i64 va, .int .i64 sh] W fun e w' => e = .returned (.tuple #[.int .i64 pv, errV pc]) ∧ Below W.heap.size W w') := hide (connRoute_eq hp)
          have RB : Hid (∀ W, Calls Try.prog 29 #[.int .i64 vb, .int .i64 sh] W fun e w' => e = .returned (.tuple #[.int .i64 qv, errV pc]) ∧ Below W.heap.size W w') := hide (connRoute_eq hq)
          clear hc hd hoa hob hva hvb hp hq hia hib
          by_cases hs : a0 = b0
          · have t3 : (a1 == b1) = false := beq_eq_false_iff_ne.2 (fun h => same ⟨hs, h⟩)
            obtain rfl := hpq hs
            obtain rfl := hs
            clear same hpq
            go_enter Try.func9, Try.ntmps9
            go_wp2_with fail
            refine (N0.out _).mono ?_
            rintro e w1 ⟨rfl, hb1⟩
            have hz1 : w.heap.size + 1 < w1.heap.size := by have := hb1.size; first | omega | (simp at this; omega)
            have hy1 : w.heap.size < w1.heap.size := by omega
            have hB1 : Below w.heap.size w w1 := by
              refine Below.trans ?_ (Below.mono hb1 ?_)
              · go_grown
              · first | omega | (simp; done) | (simp; omega)
            obtain ⟨c1, d1⟩ := bcell hb1
            go_wp2_with fail
            refine (OX.out _).mono ?_
            rintro e w2 ⟨rfl, hb2⟩
            have hz2 : w.heap.size + 1 < w2.heap.size := by have := hb2.size; first | omega | (simp at this; omega)
            have hy2 : w.heap.size < w2.heap.size := by omega
            have hB2 : Below w.heap.size w w2 := by
              refine Below.trans ?_ (Below.mono hb2 ?_)
              · go_grown
              · first | omega | (simp; done) | (simp; omega)
            obtain ⟨c2, d2⟩ := bcell hb2
            go_wp2_with fail
            refine (NA.out _).mono ?_
            rintro e w3 ⟨rfl, hb3⟩
            have hz3 : w.heap.size + 1 < w3.heap.size := by have := hb3.size; first | omega | (simp at this; omega)
            have hy3 : w.heap.size < w3.heap.size := by omega
            have hB3 : Below w.heap.size w w3 := by
              refine Below.trans ?_ (Below.mono hb3 ?_)
              · go_grown
              · first | omega | (simp; done) | (simp; omega)
            obtain ⟨c3, d3⟩ := bcell hb3
            go_wp2_with fail
            refine (OA.out _).mono ?_
            rintro e w4 ⟨rfl, hb4⟩
            have hz4 : w.heap.size + 1 < w4.heap.size := by have := hb4.size; first | omega | (simp at this; omega)
            have hy4 : w.heap.size < w4.heap.size := by omega
            have hB4 : Below w.heap.size w w4 := by
              refine Below.trans ?_ (Below.mono hb4 ?_)
              · go_grown
              · first | omega | (simp; done) | (simp; omega)
            obtain ⟨c4, d4⟩ := bcell hb4
            go_wp2_with fail
            refine (NB.out _).mono ?_
            rintro e w5 ⟨rfl, hb5⟩
            have hz5 : w.heap.size + 1 < w5.heap.size := by have := hb5.size; first | omega | (simp at this; omega)
            have hy5 : w.heap.size < w5.heap.size := by omega
            have hB5 : Below w.heap.size w w5 := by
              refine Below.trans ?_ (Below.mono hb5 ?_)
              · go_grown
              · first | omega | (simp; done) | (simp; omega)
            obtain ⟨c5, d5⟩ := bcell hb5
            go_wp2_with fail
            refine (RA.out _).mono ?_
            rintro e w6 ⟨rfl, hb6⟩
            have hz6 : w.heap.size + 1 < w6.heap.size := by have := hb6.size; first | omega | (simp at this; omega)
            have hy6 : w.heap.size < w6.heap.size := by omega
            have hB6 : Below w.heap.size w w6 := by
              refine Below.trans ?_ (Below.mono hb6 ?_)
              · go_grown
              · first | omega | (simp; done) | (simp; omega)
            obtain ⟨c6, d6⟩ := bcell hb6
            go_wp2_with fail
            refine (RB.out _).mono ?_
            rintro e w7 ⟨rfl, hb7⟩
            have hz7 : w.heap.size + 1 < w7.heap.size := by have := hb7.size; first | omega | (simp at this; omega)
            have hy7 : w.heap.size < w7.heap.size := by omega
            have hB7 : Below w.heap.size w w7 := by
              refine Below.trans ?_ (Below.mono hb7 ?_)
              · go_grown
              · first | omega | (simp; done) | (simp; omega)
            obtain ⟨c7, d7⟩ := bcell hb7
            go_wp2_with fail
            go_quiet (fail)
            go_wp2
            go_ret
            exact ⟨rfl, bel_drewN hB7 _⟩
          · have t2 : (a0 == b0) = false := beq_eq_false_iff_ne.2 hs
            clear same hpq
            go_enter Try.func9, Try.ntmps9
            go_wp2_with fail
            refine (N0.out _).mono ?_
            rintro e w1 ⟨rfl, hb1⟩
            have hz1 : w.heap.size + 1 < w1.heap.size := by have := hb1.size; first | omega | (simp at this; omega)
            have hy1 : w.heap.size < w1.heap.size := by omega
            have hB1 : Below w.heap.size w w1 := by
              refine Below.trans ?_ (Below.mono hb1 ?_)
              · go_grown
              · first | omega | (simp; done) | (simp; omega)
            obtain ⟨c1, d1⟩ := bcell hb1
            go_wp2_with fail
            refine (OX.out _).mono ?_
            rintro e w2 ⟨rfl, hb2⟩
            have hz2 : w.heap.size + 1 < w2.heap.size := by have := hb2.size; first | omega | (simp at this; omega)
            have hy2 : w.heap.size < w2.heap.size := by omega
            have hB2 : Below w.heap.size w w2 := by
              refine Below.trans ?_ (Below.mono hb2 ?_)
              · go_grown
              · first | omega | (simp; done) | (simp; omega)
            obtain ⟨c2, d2⟩ := bcell hb2
            go_wp2_with fail
            refine (NA.out _).mono ?_
            rintro e w3 ⟨rfl, hb3⟩
            have hz3 : w.heap.size + 1 < w3.heap.size := by have := hb3.size; first | omega | (simp at this; omega)
            have hy3 : w.heap.size < w3.heap.size := by omega
            have hB3 : Below w.heap.size w w3 := by
              refine Below.trans ?_ (Below.mono hb3 ?_)
              · go_grown
              · first | omega | (simp; done) | (simp; omega)
            obtain ⟨c3, d3⟩ := bcell hb3
            go_wp2_with fail
            refine (OA.out _).mono ?_
            rintro e w4 ⟨rfl, hb4⟩
            have hz4 : w.heap.size + 1 < w4.heap.size := by have := hb4.size; first | omega | (simp at this; omega)
            have hy4 : w.heap.size < w4.heap.size := by omega
            have hB4 : Below w.heap.size w w4 := by
              refine Below.trans ?_ (Below.mono hb4 ?_)
              · go_grown
              · first | omega | (simp; done) | (simp; omega)
            obtain ⟨c4, d4⟩ := bcell hb4
            go_wp2_with fail
            refine (NB.out _).mono ?_
            rintro e w5 ⟨rfl, hb5⟩
            have hz5 : w.heap.size + 1 < w5.heap.size := by have := hb5.size; first | omega | (simp at this; omega)
            have hy5 : w.heap.size < w5.heap.size := by omega
            have hB5 : Below w.heap.size w w5 := by
              refine Below.trans ?_ (Below.mono hb5 ?_)
              · go_grown
              · first | omega | (simp; done) | (simp; omega)
            obtain ⟨c5, d5⟩ := bcell hb5
            go_wp2_with fail
            refine (RA.out _).mono ?_
            rintro e w6 ⟨rfl, hb6⟩
            have hz6 : w.heap.size + 1 < w6.heap.size := by have := hb6.size; first | omega | (simp at this; omega)
            have hy6 : w.heap.size < w6.heap.size := by omega
            have hB6 : Below w.heap.size w w6 := by
              refine Below.trans ?_ (Below.mono hb6 ?_)
              · go_grown
              · first | omega | (simp; done) | (simp; omega)
            obtain ⟨c6, d6⟩ := bcell hb6
            go_wp2_with fail
            refine (RB.out _).mono ?_
            rintro e w7 ⟨rfl, hb7⟩
            have hz7 : w.heap.size + 1 < w7.heap.size := by have := hb7.size; first | omega | (simp at this; omega)
            have hy7 : w.heap.size < w7.heap.size := by omega
            have hB7 : Below w.heap.size w w7 := by
              refine Below.trans ?_ (Below.mono hb7 ?_)
              · go_grown
              · first | omega | (simp; done) | (simp; omega)
            obtain ⟨c7, d7⟩ := bcell hb7
            go_wp2_with fail
            go_quiet (fail)
            go_wp2
            go_ret
            exact ⟨rfl, bel_drewN hB7 _⟩
end Go.Proofs.Ythfnjgiaimhbiaa
