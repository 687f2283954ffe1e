/- reset: Of, Is by contracts. -/
import Derived.Test.YtfehnfbmlomccaaTag
import Derived.Test.YtfehnfbmlomccaaConn
namespace Go.Proofs.Ytfehnfbmlomccaa
open Go.RowKit

/-- what Of tells -/
def resetN (x s n : Int) : Int × Int := if inB x && connB s n then (tagOf x [3, connN s n], 0) else (0, 1)

theorem resetOf (x s n : Int) (w : World) : Calls Try.prog 11 #[.int .i64 x, .agg #[.int .i64 s, .int .i64 n]] w fun e w' => e = .returned (.tuple #[.int .i64 (resetN x s n).1, errV (resetN x s n).2]) ∧ Below w.heap.size w w' := by
  cases hx : inB x
  · have e1 : resetN x s n = (0, 1) := by simp [resetN, hx]
    rw [e1]
    have T := hide (fun W => tagIn_eq hx W)
    clear hx e1
    go_enter Try.func11, Try.ntmps11
    go_wp2_with fail
    refine (T.out _).mono ?_
    rintro e w1 ⟨rfl, rfl⟩
    go_wp2
    go_ret2
    exact ⟨rfl, by go_grown⟩
  · have T := hide (fun W => tagIn_eq hx W)
    cases hc : connB s n
    · have e1 : resetN x s n = (0, 1) := by simp [resetN, hc]
      rw [e1]
      have C := hide (fun W => connRight_eq hc W)
      clear hx e1 hc
      go_enter Try.func11, Try.ntmps11
      go_wp2_with fail
      refine (T.out _).mono ?_
      rintro e w1 ⟨rfl, rfl⟩
      go_wp2_with fail
      refine (C.out _).mono ?_
      rintro e w1 ⟨rfl, hb1⟩
      go_wp2
      go_ret2
      exact ⟨rfl, ((Below.refl _ _).alloc (Nat.le_refl _) _).trans (hb1.mono (by simp))⟩
    · obtain ⟨v, hv⟩ : ∃ v, v = connN s n := ⟨_, rfl⟩
      have e1 : resetN x s n = (tagOf x [3, v], 0) := by simp [resetN, hc, hx, hv]
      rw [e1]
      have hvi := connN_in s n hc
      rw [← hv] at hvi
      have C := hide (fun W => connRight_eq hc W)
      have I : Hid (∀ W, Calls Try.prog 29 #[.agg #[.int .i64 s, .int .i64 n]] W fun e w' => e = .returned (.int .i64 v) ∧ Below W.heap.size W w') := by intro W; rw [hv]; exact connIs s n W hc
      have O : Hid (∀ W b, W.cell? ⟨b, 0, none⟩ = some (.int .i64 3) → W.cell? ⟨b, 1, none⟩ = some (.int .i64 v) → Calls Try.prog 31 #[.int .i64 x, .slice (some ⟨b, 0, none⟩) 2 2] W fun e w' => e = .returned (.int .i64 (tagOf x [3, v])) ∧ W = w') := by
        intro W b h0 h1
        refine tagOf_row x [3, v] b 0 2 W (inB_true.1 hx) (by simp; omega) (by simp) ?_
        intro i hi
        match i, hi with
        | 0, _ => simpa using h0
        | 1, _ => simpa using h1
      clear hx e1 hc hv hvi
      go_enter Try.func11, Try.ntmps11
      go_wp2_with fail
      refine (T.out _).mono ?_
      rintro e w1 ⟨rfl, rfl⟩
      go_wp2_with fail
      refine (C.out _).mono ?_
      rintro e w1 ⟨rfl, hb1⟩
      have hz1 : w.heap.size < w1.heap.size := by have := hb1.size; first | omega | (simp at this; omega)
      have hB1 : Below w.heap.size w w1 := ((Below.refl _ _).alloc (Nat.le_refl _) _).trans (hb1.mono (by simp))
      obtain ⟨c1, d1⟩ := bcell hb1
      go_wp2_with fail
      refine (I.out _).mono ?_
      rintro e w2 ⟨rfl, hb2⟩
      have hz2 : w.heap.size < w2.heap.size := by have := hb2.size; omega
      have hB2 : Below w.heap.size w w2 := hB1.trans (hb2.mono (by omega))
      go_wp2_with fail
      refine (O.out _ _ (by simp) (by simp)).mono ?_
      rintro e w3 ⟨rfl, rfl⟩
      go_wp2
      go_ret2
      exact ⟨rfl, hB2.alloc hB2.size _⟩

theorem resetOf_eq {x s n v c : Int} (h : resetN x s n = (v, c)) (w : World) : Calls Try.prog 11 #[.int .i64 x, .agg #[.int .i64 s, .int .i64 n]] w fun e w' => e = .returned (.tuple #[.int .i64 v, errV c]) ∧ Below w.heap.size w w' := by
  have g := resetOf x s n w
  rwa [h] at g
theorem resetN_cases (x s n : Int) : (∃ v, resetN x s n = (v, 0) ∧ inB x = true ∧ connB s n = true ∧ v = tagOf x [3, connN s n]) ∨ (resetN x s n = (0, 1) ∧ (inB x && connB s n) = false) := by
  unfold resetN
  cases h : inB x && connB s n
  · exact .inr ⟨rfl, rfl⟩
  · simp only [Bool.and_eq_true] at h
    exact .inl ⟨_, rfl, h.1, h.2, rfl⟩

/-- what Is tells -/
def resetIsN (x s n t : Int) : Bool × Int := if (resetN x s n).2 = 0 ∧ inB t = true then ((resetN x s n).1 == t, 0) else (false, 1)
end Go.Proofs.Ytfehnfbmlomccaa
