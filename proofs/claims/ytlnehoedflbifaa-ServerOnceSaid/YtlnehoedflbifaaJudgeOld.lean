/- judge: old, Old by contracts. -/
import Derived.Test.YtlnehoedflbifaaTicketC
namespace Go.Proofs.Ytlnehoedflbifaa
open Go.RowKit

/-- is the ticket one of someone old? -/
def oldB (e k o te tn tu tt now : Int) : Bool := !(te == 0 && tn == 0 && tu == 0 && tt == 0) && tickE e k o te tn tu tt now == 0
set_option maxHeartbeats 1000000 in
theorem judgeold (e k o te tn tu tt now : Int) (w : World) : Calls Try.prog 34 #[.agg #[.int .i64 e, .int .i64 k, .int .i64 o], .agg #[.int .i64 te, .int .i64 tn, .int .i64 tu, .int .i64 tt], .int .i64 now] w fun r w' => r = .returned (.bool (oldB e k o te tn tu tt now)) ∧ Below w.heap.size w w' := by
  obtain ⟨c, hc⟩ : ∃ c, tickE e k o te tn tu tt now = c := ⟨_, rfl⟩
  have C := hide (fun W => ticketCheck_eq hc W)
  by_cases z0 : te = 0
  · subst z0
    by_cases z1 : tn = 0
    · subst z1
      by_cases z2 : tu = 0
      · subst z2
        by_cases z3 : tt = 0
        · subst z3
          rw [show oldB e k o 0 0 0 0 now = false by simp [oldB]]
          clear hc C
          go_enter Try.func34, Try.ntmps34
          go_wp2
          go_ret
          exact ⟨rfl, by go_grown⟩
        · have zz : (tt == 0) = false := beq_eq_false_iff_ne.2 z3
          have zn : (tt != 0) = true := bne_iff_ne.2 z3
          by_cases h0 : c = 0
          · subst h0
            rw [show oldB e k o 0 0 0 tt now = true by simp [oldB, hc, zz]]
            have C' : Hid (∀ W, Calls Try.prog 45 #[.agg #[.int .i64 e, .int .i64 k, .int .i64 o], .agg #[.int .i64 0, .int .i64 0, .int .i64 0, .int .i64 tt], .int .i64 now] W fun r w' => r = .returned .nilIface ∧ Below W.heap.size W w') := C
            clear hc C z3
            go_enter Try.func34, Try.ntmps34
            go_wp2_with fail
            refine (C'.out _).mono ?_
            rintro e w1 ⟨rfl, hb1⟩
            have hB1 : Below w.heap.size w w1 := by
              refine Below.trans ?_ (Below.mono hb1 ?_)
              · go_grown
              · first | omega | (simp; done) | (simp; omega)
            have hz1_0 : w.heap.size < w1.heap.size := by have := hb1.size; first | omega | (simp at this; omega)
            have hz1_1 : w.heap.size + 1 < w1.heap.size := by have := hb1.size; first | omega | (simp at this; omega)
            have hy1 : w.heap.size ≤ w1.heap.size := hB1.size
            obtain ⟨c1, d1⟩ := bcell hb1
            go_wp2
            go_ret
            exact ⟨rfl, by go_grown⟩
          · have t1 : (c == 0) = false := beq_eq_false_iff_ne.2 h0
            rw [show oldB e k o 0 0 0 tt now = false by simp [oldB, hc, t1]]
            clear hc z3 h0
            go_enter Try.func34, Try.ntmps34
            go_wp2_with fail
            refine (C.out _).mono ?_
            rintro e w1 ⟨rfl, hb1⟩
            have hB1 : Below w.heap.size w w1 := by
              refine Below.trans ?_ (Below.mono hb1 ?_)
              · go_grown
              · first | omega | (simp; done) | (simp; omega)
            have hz1_0 : w.heap.size < w1.heap.size := by have := hb1.size; first | omega | (simp at this; omega)
            have hz1_1 : w.heap.size + 1 < w1.heap.size := by have := hb1.size; first | omega | (simp at this; omega)
            have hy1 : w.heap.size ≤ w1.heap.size := hB1.size
            obtain ⟨c1, d1⟩ := bcell hb1
            go_wp2
            go_ret
            exact ⟨rfl, by go_grown⟩
      · have zz : (tu == 0) = false := beq_eq_false_iff_ne.2 z2
        have zn : (tu != 0) = true := bne_iff_ne.2 z2
        by_cases h0 : c = 0
        · subst h0
          rw [show oldB e k o 0 0 tu tt now = true by simp [oldB, hc, zz]]
          have C' : Hid (∀ W, Calls Try.prog 45 #[.agg #[.int .i64 e, .int .i64 k, .int .i64 o], .agg #[.int .i64 0, .int .i64 0, .int .i64 tu, .int .i64 tt], .int .i64 now] W fun r w' => r = .returned .nilIface ∧ Below W.heap.size W w') := C
          clear hc C z2
          go_enter Try.func34, Try.ntmps34
          go_wp2_with fail
          refine (C'.out _).mono ?_
          rintro e w1 ⟨rfl, hb1⟩
          have hB1 : Below w.heap.size w w1 := by
            refine Below.trans ?_ (Below.mono hb1 ?_)
            · go_grown
            · first | omega | (simp; done) | (simp; omega)
          have hz1_0 : w.heap.size < w1.heap.size := by have := hb1.size; first | omega | (simp at this; omega)
          have hz1_1 : w.heap.size + 1 < w1.heap.size := by have := hb1.size; first | omega | (simp at this; omega)
          have hy1 : w.heap.size ≤ w1.heap.size := hB1.size
          obtain ⟨c1, d1⟩ := bcell hb1
          go_wp2
          go_ret
          exact ⟨rfl, by go_grown⟩
        · have t1 : (c == 0) = false := beq_eq_false_iff_ne.2 h0
          rw [show oldB e k o 0 0 tu tt now = false by simp [oldB, hc, t1]]
          clear hc z2 h0
          go_enter Try.func34, Try.ntmps34
          go_wp2_with fail
          refine (C.out _).mono ?_
          rintro e w1 ⟨rfl, hb1⟩
          have hB1 : Below w.heap.size w w1 := by
            refine Below.trans ?_ (Below.mono hb1 ?_)
            · go_grown
            · first | omega | (simp; done) | (simp; omega)
          have hz1_0 : w.heap.size < w1.heap.size := by have := hb1.size; first | omega | (simp at this; omega)
          have hz1_1 : w.heap.size + 1 < w1.heap.size := by have := hb1.size; first | omega | (simp at this; omega)
          have hy1 : w.heap.size ≤ w1.heap.size := hB1.size
          obtain ⟨c1, d1⟩ := bcell hb1
          go_wp2
          go_ret
          exact ⟨rfl, by go_grown⟩
    · have zz : (tn == 0) = false := beq_eq_false_iff_ne.2 z1
      have zn : (tn != 0) = true := bne_iff_ne.2 z1
      by_cases h0 : c = 0
      · subst h0
        rw [show oldB e k o 0 tn tu tt now = true by simp [oldB, hc, zz]]
        have C' : Hid (∀ W, Calls Try.prog 45 #[.agg #[.int .i64 e, .int .i64 k, .int .i64 o], .agg #[.int .i64 0, .int .i64 tn, .int .i64 tu, .int .i64 tt], .int .i64 now] W fun r w' => r = .returned .nilIface ∧ Below W.heap.size W w') := C
        clear hc C z1
        go_enter Try.func34, Try.ntmps34
        go_wp2_with fail
        refine (C'.out _).mono ?_
        rintro e w1 ⟨rfl, hb1⟩
        have hB1 : Below w.heap.size w w1 := by
          refine Below.trans ?_ (Below.mono hb1 ?_)
          · go_grown
          · first | omega | (simp; done) | (simp; omega)
        have hz1_0 : w.heap.size < w1.heap.size := by have := hb1.size; first | omega | (simp at this; omega)
        have hz1_1 : w.heap.size + 1 < w1.heap.size := by have := hb1.size; first | omega | (simp at this; omega)
        have hy1 : w.heap.size ≤ w1.heap.size := hB1.size
        obtain ⟨c1, d1⟩ := bcell hb1
        go_wp2
        go_ret
        exact ⟨rfl, by go_grown⟩
      · have t1 : (c == 0) = false := beq_eq_false_iff_ne.2 h0
        rw [show oldB e k o 0 tn tu tt now = false by simp [oldB, hc, t1]]
        clear hc z1 h0
        go_enter Try.func34, Try.ntmps34
        go_wp2_with fail
        refine (C.out _).mono ?_
        rintro e w1 ⟨rfl, hb1⟩
        have hB1 : Below w.heap.size w w1 := by
          refine Below.trans ?_ (Below.mono hb1 ?_)
          · go_grown
          · first | omega | (simp; done) | (simp; omega)
        have hz1_0 : w.heap.size < w1.heap.size := by have := hb1.size; first | omega | (simp at this; omega)
        have hz1_1 : w.heap.size + 1 < w1.heap.size := by have := hb1.size; first | omega | (simp at this; omega)
        have hy1 : w.heap.size ≤ w1.heap.size := hB1.size
        obtain ⟨c1, d1⟩ := bcell hb1
        go_wp2
        go_ret
        exact ⟨rfl, by go_grown⟩
  · have zz : (te == 0) = false := beq_eq_false_iff_ne.2 z0
    have zn : (te != 0) = true := bne_iff_ne.2 z0
    by_cases h0 : c = 0
    · subst h0
      rw [show oldB e k o te tn tu tt now = true by simp [oldB, hc, zz]]
      have C' : Hid (∀ W, Calls Try.prog 45 #[.agg #[.int .i64 e, .int .i64 k, .int .i64 o], .agg #[.int .i64 te, .int .i64 tn, .int .i64 tu, .int .i64 tt], .int .i64 now] W fun r w' => r = .returned .nilIface ∧ Below W.heap.size W w') := C
      clear hc C z0
      go_enter Try.func34, Try.ntmps34
      go_wp2_with fail
      refine (C'.out _).mono ?_
      rintro e w1 ⟨rfl, hb1⟩
      have hB1 : Below w.heap.size w w1 := by
        refine Below.trans ?_ (Below.mono hb1 ?_)
        · go_grown
        · first | omega | (simp; done) | (simp; omega)
      have hz1_0 : w.heap.size < w1.heap.size := by have := hb1.size; first | omega | (simp at this; omega)
      have hz1_1 : w.heap.size + 1 < w1.heap.size := by have := hb1.size; first | omega | (simp at this; omega)
      have hy1 : w.heap.size ≤ w1.heap.size := hB1.size
      obtain ⟨c1, d1⟩ := bcell hb1
      go_wp2
      go_ret
      exact ⟨rfl, by go_grown⟩
    · have t1 : (c == 0) = false := beq_eq_false_iff_ne.2 h0
      rw [show oldB e k o te tn tu tt now = false by simp [oldB, hc, t1]]
      clear hc z0 h0
      go_enter Try.func34, Try.ntmps34
      go_wp2_with fail
      refine (C.out _).mono ?_
      rintro e w1 ⟨rfl, hb1⟩
      have hB1 : Below w.heap.size w w1 := by
        refine Below.trans ?_ (Below.mono hb1 ?_)
        · go_grown
        · first | omega | (simp; done) | (simp; omega)
      have hz1_0 : w.heap.size < w1.heap.size := by have := hb1.size; first | omega | (simp at this; omega)
      have hz1_1 : w.heap.size + 1 < w1.heap.size := by have := hb1.size; first | omega | (simp at this; omega)
      have hy1 : w.heap.size ≤ w1.heap.size := hB1.size
      obtain ⟨c1, d1⟩ := bcell hb1
      go_wp2
      go_ret
      exact ⟨rfl, by go_grown⟩
theorem judgeold_eq {e k o te tn tu tt now : Int} {v : Bool} (h : oldB e k o te tn tu tt now = v) (w : World) : Calls Try.prog 34 #[.agg #[.int .i64 e, .int .i64 k, .int .i64 o], .agg #[.int .i64 te, .int .i64 tn, .int .i64 tu, .int .i64 tt], .int .i64 now] w fun r w' => r = .returned (.bool v) ∧ Below w.heap.size w w' := by
  have g := judgeold e k o te tn tu tt now w
  rwa [h] at g
/-- what Old tells -/
def oldN (e k o te tn tu tt now : Int) : Bool × Int := if ringE e k o ≠ 0 then (false, ringE e k o) else if tmB now = false then (false, 1) else (oldB e k o te tn tu tt now, 0)
end Go.Proofs.Ytlnehoedflbifaa
