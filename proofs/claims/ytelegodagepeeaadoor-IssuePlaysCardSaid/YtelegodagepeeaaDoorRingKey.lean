/- ring: Key by contract. -/
import Derived.Test.YtelegodagepeeaaDoorRingOf
namespace Go.Proofs.YtelegodagepeeaaDoor
open Go.RowKit

/-- what Key tells -/
def ringKeyN (e k o ep : Int) : Int × Int := if ringE e k o ≠ 0 then (0, ringE e k o) else if epB ep then ringOfN e k o ep else (0, 1)
theorem ringKey {e k o ep v c : Int} (h : ringKeyN e k o ep = (v, c)) (w : World) :
    Calls Tryd.prog 33 #[.agg #[.int .i64 e, .int .i64 k, .int .i64 o], .int .i64 ep] w fun r w' => r = .returned (.tuple #[.int .i64 v, errV c]) ∧ Below w.heap.size w w' := by
  by_cases h0 : ringE e k o = 0
  · have C : Hid (∀ W, Calls Tryd.prog 35 #[.agg #[.int .i64 e, .int .i64 k, .int .i64 o]] W fun r w' => r = .returned .nilIface ∧ Below W.heap.size W w') := ringCheck_eq (c := 0) h0
    cases he : epB ep
    · have T := hide (fun W => ringEpoch_eq he W)
      unfold ringKeyN at h
      rw [if_neg (by simp [h0]), he, if_neg (by simp)] at h
      simp only [Prod.mk.injEq] at h
      obtain ⟨rfl, rfl⟩ := h
      clear he h0
      go_enter Tryd.func33, Tryd.ntmps33
      go_wp2_with fail
      refine (C.out _).mono ?_
      rintro e w1 ⟨rfl, hb1⟩
      have hB1 : Below w.heap.size w w1 := by
        refine Below.trans ?_ (Below.mono hb1 ?_)
        · go_grown
        · first | omega | (simp; done) | (simp; omega)
      have hz1_0 : w.heap.size < w1.heap.size := by have := hb1.size; first | omega | (simp at this; omega)
      have hy1 : w.heap.size ≤ w1.heap.size := hB1.size
      obtain ⟨c1, d1⟩ := bcell hb1
      go_wp2_with fail
      refine (T.out _).mono ?_
      rintro e w102 ⟨rfl, rfl⟩
      go_wp2
      go_ret2
      exact ⟨rfl, by go_grown⟩
    · have T := hide (fun W => ringEpoch_eq he W)
      obtain ⟨h1, h2, h3, h4⟩ := ringE_ok h0
      obtain ⟨h5, h6⟩ := epB_true.1 he
      unfold ringKeyN at h
      rw [if_neg (by simp [h0]), he, if_pos rfl] at h
      have O := hide (ringOf_eq h h1.1 h1.2 h5 h6)
      clear he h0 h h1 h2 h3 h4 h5 h6
      go_enter Tryd.func33, Tryd.ntmps33
      go_wp2_with fail
      refine (C.out _).mono ?_
      rintro e w1 ⟨rfl, hb1⟩
      have hB1 : Below w.heap.size w w1 := by
        refine Below.trans ?_ (Below.mono hb1 ?_)
        · go_grown
        · first | omega | (simp; done) | (simp; omega)
      have hz1_0 : w.heap.size < w1.heap.size := by have := hb1.size; first | omega | (simp at this; omega)
      have hy1 : w.heap.size ≤ w1.heap.size := hB1.size
      obtain ⟨c1, d1⟩ := bcell hb1
      go_wp2_with fail
      refine (T.out _).mono ?_
      rintro e w102 ⟨rfl, rfl⟩
      go_wp2_with fail
      refine (O.out _).mono ?_
      rintro e w3 ⟨rfl, hb3⟩
      have hB3 : Below w.heap.size w w3 := by
        refine Below.trans ?_ (Below.mono hb3 ?_)
        · go_grown
        · first | omega | (simp; done) | (simp; omega)
      have hz3_0 : w.heap.size < w3.heap.size := by have := hb3.size; first | omega | (simp at this; omega)
      have hy3 : w.heap.size ≤ w3.heap.size := hB3.size
      obtain ⟨c3, d3⟩ := bcell hb3
      go_wp2
      go_ret2
      exact ⟨rfl, by go_grown⟩
  · unfold ringKeyN at h
    rw [if_pos h0] at h
    simp only [Prod.mk.injEq] at h
    obtain ⟨rfl, hc⟩ := h
    have C := hide (ringCheck_eq hc)
    have t1 : (c != 0) = true := bne_iff_ne.2 (by rw [← hc]; exact h0)
    clear h0 hc
    go_enter Tryd.func33, Tryd.ntmps33
    go_wp2_with fail
    refine (C.out _).mono ?_
    rintro e w1 ⟨rfl, hb1⟩
    have hB1 : Below w.heap.size w w1 := by
      refine Below.trans ?_ (Below.mono hb1 ?_)
      · go_grown
      · first | omega | (simp; done) | (simp; omega)
    have hz1_0 : w.heap.size < w1.heap.size := by have := hb1.size; first | omega | (simp at this; omega)
    have hy1 : w.heap.size ≤ w1.heap.size := hB1.size
    obtain ⟨c1, d1⟩ := bcell hb1
    go_wp2
    go_ret2
    exact ⟨rfl, by go_grown⟩
end Go.Proofs.YtelegodagepeeaaDoor
