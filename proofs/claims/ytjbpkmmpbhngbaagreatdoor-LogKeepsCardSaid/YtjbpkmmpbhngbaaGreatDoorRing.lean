/- ring: Epoch, Check by contracts. -/
import Derived.Test.YtjbpkmmpbhngbaaGreatDoorTag
namespace Go.Proofs.YtjbpkmmpbhngbaaGreatDoor
open Go.RowKit

def epB (n : Int) : Bool := decide (0 ≤ n ∧ n ≤ 100)
theorem epB_true {n : Int} : epB n = true ↔ 0 ≤ n ∧ n ≤ 100 := by simp [epB]
theorem epB_false {n : Int} : epB n = false ↔ n < 0 ∨ 100 < n := by simp [epB]; omega
theorem ringEpoch (n : Int) (w : World) : Calls Tryz.prog 182 #[.int .i64 n] w fun e w' => e = .returned (.bool (epB n)) ∧ w = w' := by
  have hc : n < 0 ∨ (0 ≤ n ∧ 100 < n) ∨ (0 ≤ n ∧ n ≤ 100) := by omega
  rcases hc with h | ⟨h1, h2⟩ | ⟨h1, h2⟩
  all_goals
    go_enter Tryz.func182, Tryz.ntmps182
    go_wp2
    go_ret
    exact ⟨retB (by first | exact (decide_eq_true (by omega)).symm | exact (decide_eq_false (by omega)).symm | (simp only [epB, decide_eq_decide]; omega)), rfl⟩
theorem ringEpoch_eq {n : Int} {v : Bool} (h : epB n = v) (w : World) : Calls Tryz.prog 182 #[.int .i64 n] w fun e w' => e = .returned (.bool v) ∧ w = w' := by
  have g := ringEpoch n w
  rwa [h] at g

/-- the fault of a ring -/
def ringE (e k o : Int) : Int := if epB e && inB k && inB o then (if e = 0 ∧ o ≠ 0 then 3 else 0) else 1

theorem ringCheck (e k o : Int) (w : World) : Calls Tryz.prog 164 #[.agg #[.int .i64 e, .int .i64 k, .int .i64 o]] w fun r w' => r = .returned (errV (ringE e k o)) ∧ Below w.heap.size w w' := by
  cases he : epB e
  · rw [show ringE e k o = 1 by simp [ringE, he]]
    have T := hide (fun W => ringEpoch_eq he W)
    clear he
    go_enter Tryz.func164, Tryz.ntmps164
    go_wp2_with fail
    refine (T.out _).mono ?_
    rintro e w101 ⟨rfl, rfl⟩
    go_wp2
    go_ret
    exact ⟨rfl, by go_grown⟩
  · have T := hide (fun W => ringEpoch_eq he W)
    cases hk : inB k
    · rw [show ringE e k o = 1 by simp [ringE, hk]]
      have K := hide (fun W => tagIn_eq hk W)
      clear he hk
      go_enter Tryz.func164, Tryz.ntmps164
      go_wp2_with fail
      refine (T.out _).mono ?_
      rintro e w101 ⟨rfl, rfl⟩
      go_wp2_with fail
      refine (K.out _).mono ?_
      rintro e w102 ⟨rfl, rfl⟩
      go_wp2
      go_ret
      exact ⟨rfl, by go_grown⟩
    · have K := hide (fun W => tagIn_eq hk W)
      cases ho : inB o
      · rw [show ringE e k o = 1 by simp [ringE, ho]]
        have O := hide (fun W => tagIn_eq ho W)
        clear he hk ho
        go_enter Tryz.func164, Tryz.ntmps164
        go_wp2_with fail
        refine (T.out _).mono ?_
        rintro e w101 ⟨rfl, rfl⟩
        go_wp2_with fail
        refine (K.out _).mono ?_
        rintro e w102 ⟨rfl, rfl⟩
        go_wp2_with fail
        refine (O.out _).mono ?_
        rintro e w103 ⟨rfl, rfl⟩
        go_wp2
        go_ret
        exact ⟨rfl, by go_grown⟩
      · have O := hide (fun W => tagIn_eq ho W)
        by_cases h0 : e = 0
        · by_cases h1 : o = 0
          · rw [show ringE e k o = 0 by unfold ringE; rw [he, hk, ho]; simp [h0, h1]]
            clear he hk ho
            subst h0; subst h1
            go_enter Tryz.func164, Tryz.ntmps164
            go_wp2_with fail
            refine (T.out _).mono ?_
            rintro e w101 ⟨rfl, rfl⟩
            go_wp2_with fail
            refine (K.out _).mono ?_
            rintro e w102 ⟨rfl, rfl⟩
            go_wp2_with fail
            refine (O.out _).mono ?_
            rintro e w103 ⟨rfl, rfl⟩
            go_wp2
            go_ret
            exact ⟨rfl, by go_grown⟩
          · rw [show ringE e k o = 3 by unfold ringE; rw [he, hk, ho]; simp [h0, h1]]
            have t1 : (o != 0) = true := bne_iff_ne.2 h1
            clear he hk ho h1
            subst h0
            go_enter Tryz.func164, Tryz.ntmps164
            go_wp2_with fail
            refine (T.out _).mono ?_
            rintro e w101 ⟨rfl, rfl⟩
            go_wp2_with fail
            refine (K.out _).mono ?_
            rintro e w102 ⟨rfl, rfl⟩
            go_wp2_with fail
            refine (O.out _).mono ?_
            rintro e w103 ⟨rfl, rfl⟩
            go_wp2
            go_ret
            exact ⟨rfl, by go_grown⟩
        · rw [show ringE e k o = 0 by unfold ringE; rw [he, hk, ho]; simp [h0]]
          have t1 : (e == 0) = false := beq_eq_false_iff_ne.2 h0
          clear he hk ho h0
          go_enter Tryz.func164, Tryz.ntmps164
          go_wp2_with fail
          refine (T.out _).mono ?_
          rintro e w101 ⟨rfl, rfl⟩
          go_wp2_with fail
          refine (K.out _).mono ?_
          rintro e w102 ⟨rfl, rfl⟩
          go_wp2_with fail
          refine (O.out _).mono ?_
          rintro e w103 ⟨rfl, rfl⟩
          go_wp2
          go_ret
          exact ⟨rfl, by go_grown⟩
theorem ringCheck_eq {e k o c : Int} (h : ringE e k o = c) (w : World) : Calls Tryz.prog 164 #[.agg #[.int .i64 e, .int .i64 k, .int .i64 o]] w fun r w' => r = .returned (errV c) ∧ Below w.heap.size w w' := by
  have g := ringCheck e k o w
  rwa [h] at g
theorem ringE_cases (e k o : Int) : ringE e k o = 0 ∨ ringE e k o = 1 ∨ ringE e k o = 3 := by
  unfold ringE; split
  · split <;> simp
  · simp
theorem ringE_ok {e k o : Int} (h : ringE e k o = 0) : (0 ≤ e ∧ e ≤ 100) ∧ (0 ≤ k ∧ k < 999983) ∧ (0 ≤ o ∧ o < 999983) ∧ (e = 0 → o = 0) := by
  unfold ringE at h
  split at h
  · rename_i hh
    simp only [Bool.and_eq_true] at hh
    obtain ⟨⟨h1, h2⟩, h3⟩ := hh
    refine ⟨epB_true.1 h1, inB_true.1 h2, inB_true.1 h3, fun he => ?_⟩
    split at h
    · omega
    · rename_i hn
      exact Classical.byContradiction fun ho => hn ⟨he, ho⟩
  · omega
end Go.Proofs.YtjbpkmmpbhngbaaGreatDoor
