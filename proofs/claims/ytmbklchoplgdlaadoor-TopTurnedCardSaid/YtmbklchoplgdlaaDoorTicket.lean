/- ticket: Make by contract. -/
import Derived.Test.YtmbklchoplgdlaaDoorTicketMd
namespace Go.Proofs.YtmbklchoplgdlaaDoor
open Go.RowKit

theorem ticketMake_ok {e k o n u : Int} (hr : ringE e k o = 0) (hn : inB n = true) (hu : tmB u = true) (w : World) :
    Calls Tryd.prog 13 #[.agg #[.int .i64 e, .int .i64 k, .int .i64 o], .int .i64 n, .int .i64 u] w fun r w' => r = .returned (.tuple #[.agg #[.int .i64 e, .int .i64 n, .int .i64 u, .int .i64 (tagOf k [2, n, u])], .nilIface]) ∧ Below w.heap.size w w' := by
  obtain ⟨_, hk, _, _⟩ := ringE_ok hr
  have C : Hid (∀ W, Calls Tryd.prog 44 #[.agg #[.int .i64 e, .int .i64 k, .int .i64 o]] W fun r w' => r = .returned .nilIface ∧ Below W.heap.size W w') := ringCheck_eq (c := 0) hr
  have M := hide (fun W => ticketMade (e := e) (o := o) hk (inB_true.1 hn) (tmB_true.1 hu) W)
  have I := hide (fun W => tagIn_eq hn W)
  have T := hide (fun W => tokenTime_eq hu W)
  clear hr hn hu hk
  go_enter Tryd.func13, Tryd.ntmps13
  go_wp2_with fail
  refine (C.out _).mono ?_
  rintro e w1 ⟨rfl, hb1⟩
  have hB1 : Below w.heap.size w w1 := by
    refine Below.trans ?_ (Below.mono hb1 ?_)
    · go_grown
    · first | omega | (simp; done) | (simp; omega)
  have hz1_0 : w.heap.size < w1.heap.size := by have := hb1.size; first | omega | (simp at this; omega)
  have hz1_1 : w.heap.size + 1 < w1.heap.size := by have := hb1.size; first | omega | (simp at this; omega)
  have hy1 : w.heap.size ≤ w1.heap.size := hB1.size
  obtain ⟨c1, d1⟩ := bcell hb1
  go_wp2_with fail
  refine (I.out _).mono ?_
  rintro e w102 ⟨rfl, rfl⟩
  go_wp2_with fail
  refine (T.out _).mono ?_
  rintro e w103 ⟨rfl, rfl⟩
  go_wp2_with fail
  refine (M.out _).mono ?_
  rintro e w4 ⟨rfl, hb4⟩
  have hB4 : Below w.heap.size w w4 := by
    refine Below.trans ?_ (Below.mono hb4 ?_)
    · go_grown
    · first | omega | (simp; done) | (simp; omega)
  have hz4_0 : w.heap.size < w4.heap.size := by have := hb4.size; first | omega | (simp at this; omega)
  have hz4_1 : w.heap.size + 1 < w4.heap.size := by have := hb4.size; first | omega | (simp at this; omega)
  have hy4 : w.heap.size ≤ w4.heap.size := hB4.size
  obtain ⟨c4, d4⟩ := bcell hb4
  go_wp2
  exact bodyPost_ret (v := .tuple #[.agg #[.int .i64 e, .int .i64 n, .int .i64 u, .int .i64 (tagOf k [2, n, u])], .nilIface]) (by simp [results, Tryd.results13, go_sem, *]) rfl ⟨rfl, by go_grown⟩
theorem ticketMake_bad {e k o n u c : Int} (hc : tkmE e k o n u = c) (h0 : c ≠ 0) (w : World) :
    Calls Tryd.prog 13 #[.agg #[.int .i64 e, .int .i64 k, .int .i64 o], .int .i64 n, .int .i64 u] w fun r w' => r = .returned (.tuple #[.agg #[.int .i64 0, .int .i64 0, .int .i64 0, .int .i64 0], errV c]) ∧ Below w.heap.size w w' := by
  by_cases hr : ringE e k o = 0
  · have C : Hid (∀ W, Calls Tryd.prog 44 #[.agg #[.int .i64 e, .int .i64 k, .int .i64 o]] W fun r w' => r = .returned .nilIface ∧ Below W.heap.size W w') := ringCheck_eq (c := 0) hr
    have hh : (inB n && tmB u) = false ∧ c = 1 := by
      unfold tkmE at hc
      rw [if_neg (by simp [hr])] at hc
      cases h : inB n && tmB u
      · rw [h] at hc; exact ⟨rfl, by simpa using hc.symm⟩
      · rw [h] at hc; exact absurd (by simpa using hc.symm) h0
    obtain ⟨hh, rfl⟩ := hh
    cases hn : inB n
    · have I := hide (fun W => tagIn_eq hn W)
      clear hr hn hh hc h0
      go_enter Tryd.func13, Tryd.ntmps13
      go_wp2_with fail
      refine (C.out _).mono ?_
      rintro e w1 ⟨rfl, hb1⟩
      have hB1 : Below w.heap.size w w1 := by
        refine Below.trans ?_ (Below.mono hb1 ?_)
        · go_grown
        · first | omega | (simp; done) | (simp; omega)
      have hz1_0 : w.heap.size < w1.heap.size := by have := hb1.size; first | omega | (simp at this; omega)
      have hz1_1 : w.heap.size + 1 < w1.heap.size := by have := hb1.size; first | omega | (simp at this; omega)
      have hy1 : w.heap.size ≤ w1.heap.size := hB1.size
      obtain ⟨c1, d1⟩ := bcell hb1
      go_wp2_with fail
      refine (I.out _).mono ?_
      rintro e w102 ⟨rfl, rfl⟩
      go_wp2
      exact bodyPost_ret (v := .tuple #[.agg #[.int .i64 0, .int .i64 0, .int .i64 0, .int .i64 0], .iface 82 (.int .i64 1)]) (by simp [results, Tryd.results13, go_sem, *]) rfl ⟨rfl, by go_grown⟩
    · have hu : tmB u = false := by rw [hn] at hh; simpa using hh
      have I := hide (fun W => tagIn_eq hn W)
      have T := hide (fun W => tokenTime_eq hu W)
      clear hr hn hh hu hc h0
      go_enter Tryd.func13, Tryd.ntmps13
      go_wp2_with fail
      refine (C.out _).mono ?_
      rintro e w1 ⟨rfl, hb1⟩
      have hB1 : Below w.heap.size w w1 := by
        refine Below.trans ?_ (Below.mono hb1 ?_)
        · go_grown
        · first | omega | (simp; done) | (simp; omega)
      have hz1_0 : w.heap.size < w1.heap.size := by have := hb1.size; first | omega | (simp at this; omega)
      have hz1_1 : w.heap.size + 1 < w1.heap.size := by have := hb1.size; first | omega | (simp at this; omega)
      have hy1 : w.heap.size ≤ w1.heap.size := hB1.size
      obtain ⟨c1, d1⟩ := bcell hb1
      go_wp2_with fail
      refine (I.out _).mono ?_
      rintro e w102 ⟨rfl, rfl⟩
      go_wp2_with fail
      refine (T.out _).mono ?_
      rintro e w103 ⟨rfl, rfl⟩
      go_wp2
      exact bodyPost_ret (v := .tuple #[.agg #[.int .i64 0, .int .i64 0, .int .i64 0, .int .i64 0], .iface 82 (.int .i64 1)]) (by simp [results, Tryd.results13, go_sem, *]) rfl ⟨rfl, by go_grown⟩
  · have e1 : ringE e k o = c := by unfold tkmE at hc; rwa [if_pos hr] at hc
    have C := hide (fun W => ringCheck_eq e1 W)
    have t1 : (c != 0) = true := bne_iff_ne.2 h0
    clear hr e1 hc h0
    go_enter Tryd.func13, Tryd.ntmps13
    go_wp2_with fail
    refine (C.out _).mono ?_
    rintro e w1 ⟨rfl, hb1⟩
    have hB1 : Below w.heap.size w w1 := by
      refine Below.trans ?_ (Below.mono hb1 ?_)
      · go_grown
      · first | omega | (simp; done) | (simp; omega)
    have hz1_0 : w.heap.size < w1.heap.size := by have := hb1.size; first | omega | (simp at this; omega)
    have hz1_1 : w.heap.size + 1 < w1.heap.size := by have := hb1.size; first | omega | (simp at this; omega)
    have hy1 : w.heap.size ≤ w1.heap.size := hB1.size
    obtain ⟨c1, d1⟩ := bcell hb1
    go_wp2
    exact bodyPost_ret (v := .tuple #[.agg #[.int .i64 0, .int .i64 0, .int .i64 0, .int .i64 0], errV c]) (by simp [results, Tryd.results13, go_sem, *]) rfl ⟨rfl, by go_grown⟩
end Go.Proofs.YtmbklchoplgdlaaDoor
