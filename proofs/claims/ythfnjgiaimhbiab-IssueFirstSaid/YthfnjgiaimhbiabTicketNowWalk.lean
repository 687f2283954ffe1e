/- The walk of TicketNow. -/
import Derived.Test.YthfnjgiaimhbiabTicketC
namespace Go.Proofs.Ythfnjgiaimhbiab
open Go.RowKit

theorem tickE_made {e k o n u now : Int} (hr : ringE e k o = 0) (hn : inB n = true) (hu : tmB u = true) (h0 : 0 ≤ now) (h1 : now ≤ 100000) :
    tickE e k o e n u (tagOf k [2, n, u]) now = if u < now then 9 else 0 := by
  obtain ⟨he, _, _, _⟩ := ringE_ok hr
  have hR : tickR e n u (tagOf k [2, n, u]) = true := by simp [tickR, epB_true.2 he, hn, hu, inB_true.2 (tagOf_in k [2, n, u])]
  have hO : ringOfN e k o e = (k, 0) := by simp [ringOfN]
  unfold tickE
  rw [if_neg (by simp [hr]), if_neg (by simp [hR, tmB_true.2 ⟨h0, h1⟩]), hO]
  simp

set_option maxHeartbeats 1000000 in
theorem walkTicketNow (w : World) (e k o : Int) (_w0 : (Lit.int .i64 e).wf = true) (_w1 : (Lit.int .i64 k).wf = true) (_w2 : (Lit.int .i64 o).wf = true) (n : Int) (_wn : (Lit.int .i64 n).wf = true) (u : Int) (_wu : (Lit.int .i64 u).wf = true) :
    Calls Try.prog 6 #[.agg #[.int .i64 e, .int .i64 k, .int .i64 o], .int .i64 n, .int .i64 u] w fun r w' => r = .returned (.bool true) ∧ Below w.heap.size w w' := by
  rcases tkmE_cases e k o n u with ⟨hm, hr, hn, hu⟩ | hm
  · have hub := tmB_true.1 hu
    have c1 : tickE e k o e n u (tagOf k [2, n, u]) u = 0 := by rw [tickE_made hr hn hu hub.1 hub.2, if_neg (by omega)]
    have c2 : tickE e k o e n u (tagOf k [2, n, u]) 0 = 0 := by rw [tickE_made hr hn hu (by omega) (by omega), if_neg (by omega)]
    have M := hide (fun W => ticketMake_ok hr hn hu W)
    obtain ⟨g, hg⟩ : ∃ g, g = tagOf k [2, n, u] := ⟨_, rfl⟩
    rw [← hg] at c1 c2 M
    have C1 : Hid (∀ W, Calls Try.prog 18 #[.agg #[.int .i64 e, .int .i64 k, .int .i64 o], .agg #[.int .i64 e, .int .i64 n, .int .i64 u, .int .i64 g], .int .i64 u] W fun r w' => r = .returned .nilIface ∧ Below W.heap.size W w') := ticketCheck_eq c1
    have C2 : Hid (∀ W, Calls Try.prog 18 #[.agg #[.int .i64 e, .int .i64 k, .int .i64 o], .agg #[.int .i64 e, .int .i64 n, .int .i64 u, .int .i64 g], .int .i64 0] W fun r w' => r = .returned .nilIface ∧ Below W.heap.size W w') := ticketCheck_eq c2
    clear hm hr hn hu hub hg c1 c2
    go_enter Try.func6, Try.ntmps6
    go_wp2_with fail
    refine (M.out _).mono ?_
    rintro e w1 ⟨rfl, hb1⟩
    have hB1 : Below w.heap.size w w1 := by
      refine Below.trans ?_ (Below.mono hb1 ?_)
      · go_grown
      · first | omega | (simp; done) | (simp; omega)
    have hz1_0 : w.heap.size < w1.heap.size := by have := hb1.size; first | omega | (simp at this; omega)
    have hy1 : w.heap.size ≤ w1.heap.size := hB1.size
    obtain ⟨c1, d1⟩ := bcell hb1
    go_wp2_with fail
    refine (C1.out _).mono ?_
    rintro e w2 ⟨rfl, hb2⟩
    have hB2 : Below w.heap.size w w2 := by
      refine Below.trans ?_ (Below.mono hb2 ?_)
      · go_grown
      · first | omega | (simp; done) | (simp; omega)
    have hz2_0 : w.heap.size < w2.heap.size := by have := hb2.size; first | omega | (simp at this; omega)
    have hl2_w1 : w1.heap.size < w2.heap.size := by have := hb2.size; first | omega | (simp at this; omega)
    have hy2 : w.heap.size ≤ w2.heap.size := hB2.size
    obtain ⟨c2, d2⟩ := bcell hb2
    go_wp2_with fail
    refine (C2.out _).mono ?_
    rintro e w3 ⟨rfl, hb3⟩
    have hB3 : Below w.heap.size w w3 := by
      refine Below.trans ?_ (Below.mono hb3 ?_)
      · go_grown
      · first | omega | (simp; done) | (simp; omega)
    have hz3_0 : w.heap.size < w3.heap.size := by have := hb3.size; first | omega | (simp at this; omega)
    have hl3_w1 : w1.heap.size < w3.heap.size := by have := hb3.size; first | omega | (simp at this; omega)
    have hy3 : w.heap.size ≤ w3.heap.size := hB3.size
    obtain ⟨c3, d3⟩ := bcell hb3
    go_wp2
    go_ret
    exact ⟨rfl, by go_grown⟩
  · obtain ⟨c, hc⟩ : ∃ c, tkmE e k o n u = c := ⟨_, rfl⟩
    rw [hc] at hm
    have M := hide (fun W => ticketMake_bad hc hm W)
    have t1 : (c != 0) = true := bne_iff_ne.2 hm
    clear hc hm
    go_enter Try.func6, Try.ntmps6
    go_wp2_with fail
    refine (M.out _).mono ?_
    rintro e w1 ⟨rfl, hb1⟩
    have hB1 : Below w.heap.size w w1 := by
      refine Below.trans ?_ (Below.mono hb1 ?_)
      · go_grown
      · first | omega | (simp; done) | (simp; omega)
    have hz1_0 : w.heap.size < w1.heap.size := by have := hb1.size; first | omega | (simp at this; omega)
    have hy1 : w.heap.size ≤ w1.heap.size := hB1.size
    obtain ⟨c1, d1⟩ := bcell hb1
    go_wp2
    go_ret
    exact ⟨rfl, by go_grown⟩
end Go.Proofs.Ythfnjgiaimhbiab
