/- foldref2: Old by contract. -/
import Derived.Test.YtlnghfmcofmkjaaGreatDoorRunAnswersProofM16
import Derived.Test.YtlnghfmcofmkjaaGreatDoorRTicket
import Derived.Test.YtlnghfmcofmkjaaGreatDoorRunAnswersProofM4
namespace Go.Proofs.YtlnghfmcofmkjaaGreatDoor
open Go.RowKit

set_option maxHeartbeats 2000000 in
theorem rOld {e k o u0 u1 u2 u3 now : Int} {v : Bool} (h : oldB e k o u0 u1 u2 u3 now = v) (w : World) : Calls Tryz.prog 76 #[.agg #[.int .i64 e, .int .i64 k, .int .i64 o], .agg #[.int .i64 u0, .int .i64 u1, .int .i64 u2, .int .i64 u3], .int .i64 now] w fun r w' => r = .returned (.bool v) ∧ Below w.heap.size w w' := by
  obtain ⟨c, hc⟩ : ∃ c, tickE e k o u0 u1 u2 u3 now = c := ⟨_, rfl⟩
  have CT := hide (fun W => rTicket_eq hc W)
  have hv : (!(u0 == 0 && u1 == 0 && u2 == 0 && u3 == 0) && c == 0) = v := by rw [← h, ← hc]; rfl
  clear h hc
  by_cases z0 : u0 = 0
  · subst z0
    by_cases z1 : u1 = 0
    · subst z1
      by_cases z2 : u2 = 0
      · subst z2
        by_cases z3 : u3 = 0
        · subst z3
          obtain rfl : v = false := by rw [← hv]; simp
          clear hv CT
          go_enter Tryz.func76, Tryz.ntmps76
          go_wp2
          go_ret
          exact ⟨rfl, by go_grown⟩
        · have zz : (u3 == 0) = false := beq_eq_false_iff_ne.2 z3
          have zn : (u3 != 0) = true := bne_iff_ne.2 z3
          by_cases h0 : c = 0
          · subst h0
            obtain rfl : v = true := by rw [← hv]; simp [zz]
            clear hv z3
            go_enter Tryz.func76, Tryz.ntmps76
            go_wp2_with fail
            refine (CT.out _).mono ?_
            rintro e w1 ⟨rfl, hb1⟩
            have hB1 : Below w.heap.size w w1 := by
              refine Below.trans ?_ (Below.mono hb1 ?_)
              · go_grown
              · first | omega | (simp; done) | (simp; omega)
            have o1_r : ObjAt w1 (w.heap.size) 52 [.int .i64 e, .int .i64 k, .int .i64 o] := ObjAt.below (ObjAt.alloc (ObjAt.alloc (objNew (by simp)) _) _) hb1
            have o1_t : ObjAt w1 (w.heap.size + 1) 67 [.int .i64 0, .int .i64 0, .int .i64 0, .int .i64 u3] := ObjAt.below (ObjAt.alloc (objNew (by simp)) _) hb1
            have o1_none : ObjAt w1 (w.heap.size + 2) 67 [.int .i64 0, .int .i64 0, .int .i64 0, .int .i64 0] := ObjAt.below (objNew (by simp)) hb1
            have q1_r_0 := o1_r.cell (i := 0) rfl
            have q1_r_1 := o1_r.cell (i := 1) rfl
            have q1_r_2 := o1_r.cell (i := 2) rfl
            have l1_r := o1_r.lt
            have H1_r := hide o1_r
            clear o1_r
            have q1_t_0 := o1_t.cell (i := 0) rfl
            have q1_t_1 := o1_t.cell (i := 1) rfl
            have q1_t_2 := o1_t.cell (i := 2) rfl
            have q1_t_3 := o1_t.cell (i := 3) rfl
            have l1_t := o1_t.lt
            have H1_t := hide o1_t
            clear o1_t
            have q1_none_0 := o1_none.cell (i := 0) rfl
            have q1_none_1 := o1_none.cell (i := 1) rfl
            have q1_none_2 := o1_none.cell (i := 2) rfl
            have q1_none_3 := o1_none.cell (i := 3) rfl
            have l1_none := o1_none.lt
            have H1_none := hide o1_none
            clear o1_none
            have hy1 : w.heap.size ≤ w1.heap.size := hB1.size
            clear hb1
            go_wp2
            go_ret
            exact ⟨rfl, by go_grown⟩
          · have tc : (c == 0) = false := beq_eq_false_iff_ne.2 h0
            obtain rfl : v = false := by rw [← hv]; simp [tc]
            clear hv z3 h0
            go_enter Tryz.func76, Tryz.ntmps76
            go_wp2_with fail
            refine (CT.out _).mono ?_
            rintro e w1 ⟨rfl, hb1⟩
            have hB1 : Below w.heap.size w w1 := by
              refine Below.trans ?_ (Below.mono hb1 ?_)
              · go_grown
              · first | omega | (simp; done) | (simp; omega)
            have o1_r : ObjAt w1 (w.heap.size) 52 [.int .i64 e, .int .i64 k, .int .i64 o] := ObjAt.below (ObjAt.alloc (ObjAt.alloc (objNew (by simp)) _) _) hb1
            have o1_t : ObjAt w1 (w.heap.size + 1) 67 [.int .i64 0, .int .i64 0, .int .i64 0, .int .i64 u3] := ObjAt.below (ObjAt.alloc (objNew (by simp)) _) hb1
            have o1_none : ObjAt w1 (w.heap.size + 2) 67 [.int .i64 0, .int .i64 0, .int .i64 0, .int .i64 0] := ObjAt.below (objNew (by simp)) hb1
            have q1_r_0 := o1_r.cell (i := 0) rfl
            have q1_r_1 := o1_r.cell (i := 1) rfl
            have q1_r_2 := o1_r.cell (i := 2) rfl
            have l1_r := o1_r.lt
            have H1_r := hide o1_r
            clear o1_r
            have q1_t_0 := o1_t.cell (i := 0) rfl
            have q1_t_1 := o1_t.cell (i := 1) rfl
            have q1_t_2 := o1_t.cell (i := 2) rfl
            have q1_t_3 := o1_t.cell (i := 3) rfl
            have l1_t := o1_t.lt
            have H1_t := hide o1_t
            clear o1_t
            have q1_none_0 := o1_none.cell (i := 0) rfl
            have q1_none_1 := o1_none.cell (i := 1) rfl
            have q1_none_2 := o1_none.cell (i := 2) rfl
            have q1_none_3 := o1_none.cell (i := 3) rfl
            have l1_none := o1_none.lt
            have H1_none := hide o1_none
            clear o1_none
            have hy1 : w.heap.size ≤ w1.heap.size := hB1.size
            clear hb1
            go_wp2
            go_ret
            exact ⟨rfl, by go_grown⟩
      · have zz : (u2 == 0) = false := beq_eq_false_iff_ne.2 z2
        have zn : (u2 != 0) = true := bne_iff_ne.2 z2
        by_cases h0 : c = 0
        · subst h0
          obtain rfl : v = true := by rw [← hv]; simp [zz]
          clear hv z2
          go_enter Tryz.func76, Tryz.ntmps76
          go_wp2_with fail
          refine (CT.out _).mono ?_
          rintro e w1 ⟨rfl, hb1⟩
          have hB1 : Below w.heap.size w w1 := by
            refine Below.trans ?_ (Below.mono hb1 ?_)
            · go_grown
            · first | omega | (simp; done) | (simp; omega)
          have o1_r : ObjAt w1 (w.heap.size) 52 [.int .i64 e, .int .i64 k, .int .i64 o] := ObjAt.below (ObjAt.alloc (ObjAt.alloc (objNew (by simp)) _) _) hb1
          have o1_t : ObjAt w1 (w.heap.size + 1) 67 [.int .i64 0, .int .i64 0, .int .i64 u2, .int .i64 u3] := ObjAt.below (ObjAt.alloc (objNew (by simp)) _) hb1
          have o1_none : ObjAt w1 (w.heap.size + 2) 67 [.int .i64 0, .int .i64 0, .int .i64 0, .int .i64 0] := ObjAt.below (objNew (by simp)) hb1
          have q1_r_0 := o1_r.cell (i := 0) rfl
          have q1_r_1 := o1_r.cell (i := 1) rfl
          have q1_r_2 := o1_r.cell (i := 2) rfl
          have l1_r := o1_r.lt
          have H1_r := hide o1_r
          clear o1_r
          have q1_t_0 := o1_t.cell (i := 0) rfl
          have q1_t_1 := o1_t.cell (i := 1) rfl
          have q1_t_2 := o1_t.cell (i := 2) rfl
          have q1_t_3 := o1_t.cell (i := 3) rfl
          have l1_t := o1_t.lt
          have H1_t := hide o1_t
          clear o1_t
          have q1_none_0 := o1_none.cell (i := 0) rfl
          have q1_none_1 := o1_none.cell (i := 1) rfl
          have q1_none_2 := o1_none.cell (i := 2) rfl
          have q1_none_3 := o1_none.cell (i := 3) rfl
          have l1_none := o1_none.lt
          have H1_none := hide o1_none
          clear o1_none
          have hy1 : w.heap.size ≤ w1.heap.size := hB1.size
          clear hb1
          go_wp2
          go_ret
          exact ⟨rfl, by go_grown⟩
        · have tc : (c == 0) = false := beq_eq_false_iff_ne.2 h0
          obtain rfl : v = false := by rw [← hv]; simp [tc]
          clear hv z2 h0
          go_enter Tryz.func76, Tryz.ntmps76
          go_wp2_with fail
          refine (CT.out _).mono ?_
          rintro e w1 ⟨rfl, hb1⟩
          have hB1 : Below w.heap.size w w1 := by
            refine Below.trans ?_ (Below.mono hb1 ?_)
            · go_grown
            · first | omega | (simp; done) | (simp; omega)
          have o1_r : ObjAt w1 (w.heap.size) 52 [.int .i64 e, .int .i64 k, .int .i64 o] := ObjAt.below (ObjAt.alloc (ObjAt.alloc (objNew (by simp)) _) _) hb1
          have o1_t : ObjAt w1 (w.heap.size + 1) 67 [.int .i64 0, .int .i64 0, .int .i64 u2, .int .i64 u3] := ObjAt.below (ObjAt.alloc (objNew (by simp)) _) hb1
          have o1_none : ObjAt w1 (w.heap.size + 2) 67 [.int .i64 0, .int .i64 0, .int .i64 0, .int .i64 0] := ObjAt.below (objNew (by simp)) hb1
          have q1_r_0 := o1_r.cell (i := 0) rfl
          have q1_r_1 := o1_r.cell (i := 1) rfl
          have q1_r_2 := o1_r.cell (i := 2) rfl
          have l1_r := o1_r.lt
          have H1_r := hide o1_r
          clear o1_r
          have q1_t_0 := o1_t.cell (i := 0) rfl
          have q1_t_1 := o1_t.cell (i := 1) rfl
          have q1_t_2 := o1_t.cell (i := 2) rfl
          have q1_t_3 := o1_t.cell (i := 3) rfl
          have l1_t := o1_t.lt
          have H1_t := hide o1_t
          clear o1_t
          have q1_none_0 := o1_none.cell (i := 0) rfl
          have q1_none_1 := o1_none.cell (i := 1) rfl
          have q1_none_2 := o1_none.cell (i := 2) rfl
          have q1_none_3 := o1_none.cell (i := 3) rfl
          have l1_none := o1_none.lt
          have H1_none := hide o1_none
          clear o1_none
          have hy1 : w.heap.size ≤ w1.heap.size := hB1.size
          clear hb1
          go_wp2
          go_ret
          exact ⟨rfl, by go_grown⟩
    · have zz : (u1 == 0) = false := beq_eq_false_iff_ne.2 z1
      have zn : (u1 != 0) = true := bne_iff_ne.2 z1
      by_cases h0 : c = 0
      · subst h0
        obtain rfl : v = true := by rw [← hv]; simp [zz]
        clear hv z1
        go_enter Tryz.func76, Tryz.ntmps76
        go_wp2_with fail
        refine (CT.out _).mono ?_
        rintro e w1 ⟨rfl, hb1⟩
        have hB1 : Below w.heap.size w w1 := by
          refine Below.trans ?_ (Below.mono hb1 ?_)
          · go_grown
          · first | omega | (simp; done) | (simp; omega)
        have o1_r : ObjAt w1 (w.heap.size) 52 [.int .i64 e, .int .i64 k, .int .i64 o] := ObjAt.below (ObjAt.alloc (ObjAt.alloc (objNew (by simp)) _) _) hb1
        have o1_t : ObjAt w1 (w.heap.size + 1) 67 [.int .i64 0, .int .i64 u1, .int .i64 u2, .int .i64 u3] := ObjAt.below (ObjAt.alloc (objNew (by simp)) _) hb1
        have o1_none : ObjAt w1 (w.heap.size + 2) 67 [.int .i64 0, .int .i64 0, .int .i64 0, .int .i64 0] := ObjAt.below (objNew (by simp)) hb1
        have q1_r_0 := o1_r.cell (i := 0) rfl
        have q1_r_1 := o1_r.cell (i := 1) rfl
        have q1_r_2 := o1_r.cell (i := 2) rfl
        have l1_r := o1_r.lt
        have H1_r := hide o1_r
        clear o1_r
        have q1_t_0 := o1_t.cell (i := 0) rfl
        have q1_t_1 := o1_t.cell (i := 1) rfl
        have q1_t_2 := o1_t.cell (i := 2) rfl
        have q1_t_3 := o1_t.cell (i := 3) rfl
        have l1_t := o1_t.lt
        have H1_t := hide o1_t
        clear o1_t
        have q1_none_0 := o1_none.cell (i := 0) rfl
        have q1_none_1 := o1_none.cell (i := 1) rfl
        have q1_none_2 := o1_none.cell (i := 2) rfl
        have q1_none_3 := o1_none.cell (i := 3) rfl
        have l1_none := o1_none.lt
        have H1_none := hide o1_none
        clear o1_none
        have hy1 : w.heap.size ≤ w1.heap.size := hB1.size
        clear hb1
        go_wp2
        go_ret
        exact ⟨rfl, by go_grown⟩
      · have tc : (c == 0) = false := beq_eq_false_iff_ne.2 h0
        obtain rfl : v = false := by rw [← hv]; simp [tc]
        clear hv z1 h0
        go_enter Tryz.func76, Tryz.ntmps76
        go_wp2_with fail
        refine (CT.out _).mono ?_
        rintro e w1 ⟨rfl, hb1⟩
        have hB1 : Below w.heap.size w w1 := by
          refine Below.trans ?_ (Below.mono hb1 ?_)
          · go_grown
          · first | omega | (simp; done) | (simp; omega)
        have o1_r : ObjAt w1 (w.heap.size) 52 [.int .i64 e, .int .i64 k, .int .i64 o] := ObjAt.below (ObjAt.alloc (ObjAt.alloc (objNew (by simp)) _) _) hb1
        have o1_t : ObjAt w1 (w.heap.size + 1) 67 [.int .i64 0, .int .i64 u1, .int .i64 u2, .int .i64 u3] := ObjAt.below (ObjAt.alloc (objNew (by simp)) _) hb1
        have o1_none : ObjAt w1 (w.heap.size + 2) 67 [.int .i64 0, .int .i64 0, .int .i64 0, .int .i64 0] := ObjAt.below (objNew (by simp)) hb1
        have q1_r_0 := o1_r.cell (i := 0) rfl
        have q1_r_1 := o1_r.cell (i := 1) rfl
        have q1_r_2 := o1_r.cell (i := 2) rfl
        have l1_r := o1_r.lt
        have H1_r := hide o1_r
        clear o1_r
        have q1_t_0 := o1_t.cell (i := 0) rfl
        have q1_t_1 := o1_t.cell (i := 1) rfl
        have q1_t_2 := o1_t.cell (i := 2) rfl
        have q1_t_3 := o1_t.cell (i := 3) rfl
        have l1_t := o1_t.lt
        have H1_t := hide o1_t
        clear o1_t
        have q1_none_0 := o1_none.cell (i := 0) rfl
        have q1_none_1 := o1_none.cell (i := 1) rfl
        have q1_none_2 := o1_none.cell (i := 2) rfl
        have q1_none_3 := o1_none.cell (i := 3) rfl
        have l1_none := o1_none.lt
        have H1_none := hide o1_none
        clear o1_none
        have hy1 : w.heap.size ≤ w1.heap.size := hB1.size
        clear hb1
        go_wp2
        go_ret
        exact ⟨rfl, by go_grown⟩
  · have zz : (u0 == 0) = false := beq_eq_false_iff_ne.2 z0
    have zn : (u0 != 0) = true := bne_iff_ne.2 z0
    by_cases h0 : c = 0
    · subst h0
      obtain rfl : v = true := by rw [← hv]; simp [zz]
      clear hv z0
      go_enter Tryz.func76, Tryz.ntmps76
      go_wp2_with fail
      refine (CT.out _).mono ?_
      rintro e w1 ⟨rfl, hb1⟩
      have hB1 : Below w.heap.size w w1 := by
        refine Below.trans ?_ (Below.mono hb1 ?_)
        · go_grown
        · first | omega | (simp; done) | (simp; omega)
      have o1_r : ObjAt w1 (w.heap.size) 52 [.int .i64 e, .int .i64 k, .int .i64 o] := ObjAt.below (ObjAt.alloc (ObjAt.alloc (objNew (by simp)) _) _) hb1
      have o1_t : ObjAt w1 (w.heap.size + 1) 67 [.int .i64 u0, .int .i64 u1, .int .i64 u2, .int .i64 u3] := ObjAt.below (ObjAt.alloc (objNew (by simp)) _) hb1
      have o1_none : ObjAt w1 (w.heap.size + 2) 67 [.int .i64 0, .int .i64 0, .int .i64 0, .int .i64 0] := ObjAt.below (objNew (by simp)) hb1
      have q1_r_0 := o1_r.cell (i := 0) rfl
      have q1_r_1 := o1_r.cell (i := 1) rfl
      have q1_r_2 := o1_r.cell (i := 2) rfl
      have l1_r := o1_r.lt
      have H1_r := hide o1_r
      clear o1_r
      have q1_t_0 := o1_t.cell (i := 0) rfl
      have q1_t_1 := o1_t.cell (i := 1) rfl
      have q1_t_2 := o1_t.cell (i := 2) rfl
      have q1_t_3 := o1_t.cell (i := 3) rfl
      have l1_t := o1_t.lt
      have H1_t := hide o1_t
      clear o1_t
      have q1_none_0 := o1_none.cell (i := 0) rfl
      have q1_none_1 := o1_none.cell (i := 1) rfl
      have q1_none_2 := o1_none.cell (i := 2) rfl
      have q1_none_3 := o1_none.cell (i := 3) rfl
      have l1_none := o1_none.lt
      have H1_none := hide o1_none
      clear o1_none
      have hy1 : w.heap.size ≤ w1.heap.size := hB1.size
      clear hb1
      go_wp2
      go_ret
      exact ⟨rfl, by go_grown⟩
    · have tc : (c == 0) = false := beq_eq_false_iff_ne.2 h0
      obtain rfl : v = false := by rw [← hv]; simp [tc]
      clear hv z0 h0
      go_enter Tryz.func76, Tryz.ntmps76
      go_wp2_with fail
      refine (CT.out _).mono ?_
      rintro e w1 ⟨rfl, hb1⟩
      have hB1 : Below w.heap.size w w1 := by
        refine Below.trans ?_ (Below.mono hb1 ?_)
        · go_grown
        · first | omega | (simp; done) | (simp; omega)
      have o1_r : ObjAt w1 (w.heap.size) 52 [.int .i64 e, .int .i64 k, .int .i64 o] := ObjAt.below (ObjAt.alloc (ObjAt.alloc (objNew (by simp)) _) _) hb1
      have o1_t : ObjAt w1 (w.heap.size + 1) 67 [.int .i64 u0, .int .i64 u1, .int .i64 u2, .int .i64 u3] := ObjAt.below (ObjAt.alloc (objNew (by simp)) _) hb1
      have o1_none : ObjAt w1 (w.heap.size + 2) 67 [.int .i64 0, .int .i64 0, .int .i64 0, .int .i64 0] := ObjAt.below (objNew (by simp)) hb1
      have q1_r_0 := o1_r.cell (i := 0) rfl
      have q1_r_1 := o1_r.cell (i := 1) rfl
      have q1_r_2 := o1_r.cell (i := 2) rfl
      have l1_r := o1_r.lt
      have H1_r := hide o1_r
      clear o1_r
      have q1_t_0 := o1_t.cell (i := 0) rfl
      have q1_t_1 := o1_t.cell (i := 1) rfl
      have q1_t_2 := o1_t.cell (i := 2) rfl
      have q1_t_3 := o1_t.cell (i := 3) rfl
      have l1_t := o1_t.lt
      have H1_t := hide o1_t
      clear o1_t
      have q1_none_0 := o1_none.cell (i := 0) rfl
      have q1_none_1 := o1_none.cell (i := 1) rfl
      have q1_none_2 := o1_none.cell (i := 2) rfl
      have q1_none_3 := o1_none.cell (i := 3) rfl
      have l1_none := o1_none.lt
      have H1_none := hide o1_none
      clear o1_none
      have hy1 : w.heap.size ≤ w1.heap.size := hB1.size
      clear hb1
      go_wp2
      go_ret
      exact ⟨rfl, by go_grown⟩
end Go.Proofs.YtlnghfmcofmkjaaGreatDoor
