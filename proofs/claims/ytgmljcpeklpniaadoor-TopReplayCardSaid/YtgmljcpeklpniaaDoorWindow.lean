/- window: New, Check by contracts. -/
import Derived.Test.YtgmljcpeklpniaaDoorTime
import Derived.Test.YtgmljcpeklpniaaDoorBitsI
namespace Go.Proofs.YtgmljcpeklpniaaDoor
open Go.RowKit

/-- the fault of a window -/
def winE (T B : Int) : Int := if T < -1 ∨ 100000 < T ∨ B < 0 ∨ 4294967295 < B then 1 else if T = -1 then (if B = 0 then 0 else 3) else if B % 2 = 0 then 3 else if T < 31 ∧ B / 2 ^ (T + 1).toNat ≠ 0 then 3 else 0
theorem windowNew (w : World) : Calls Tryd.prog 19 #[] w fun e w' => e = .returned (.agg #[.int .i64 (-1), .int .i64 0]) ∧ Below w.heap.size w w' := by
  go_enter Tryd.func19, Tryd.ntmps19
  go_wp2
  go_returns
  exact ⟨rfl, by go_grown⟩
set_option maxHeartbeats 4000000 in
theorem windowCheck {T B c : Int} (hc : winE T B = c) (w : World) : Calls Tryd.prog 26 #[.agg #[.int .i64 T, .int .i64 B]] w fun e w' => e = .returned (errV c) ∧ Below w.heap.size w w' := by
  have TM := hide (fun W => tokenTime T W)
  by_cases h1 : T = -1
  · subst h1
    by_cases h2 : B < 0 ∨ 4294967295 < B
    · obtain rfl : c = 1 := by rw [← hc]; unfold winE; rw [if_pos (by omega)]
      clear hc
      rcases h2 with h2 | h2
      · go_enter Tryd.func26, Tryd.ntmps26
        go_wp2
        go_ret
        exact ⟨rfl, by go_grown⟩
      · have h3 : 0 ≤ B := by omega
        go_enter Tryd.func26, Tryd.ntmps26
        go_wp2
        go_ret
        exact ⟨rfl, by go_grown⟩
    · by_cases h3 : B = 0
      · subst h3
        obtain rfl : c = 0 := by rw [← hc]; unfold winE; rw [if_neg (by omega), if_pos rfl, if_pos rfl]
        clear hc h2
        go_enter Tryd.func26, Tryd.ntmps26
        go_wp2
        go_ret
        exact ⟨rfl, by go_grown⟩
      · obtain rfl : c = 3 := by rw [← hc]; unfold winE; rw [if_neg (by omega), if_pos rfl, if_neg h3]
        have h4 : 0 ≤ B := by omega
        have h5 : B ≤ 4294967295 := by omega
        have t1 : (B != 0) = true := bne_iff_ne.2 h3
        clear hc h2 h3
        go_enter Tryd.func26, Tryd.ntmps26
        go_wp2
        go_ret
        exact ⟨rfl, by go_grown⟩
  · have t0 : (T != -1) = true := bne_iff_ne.2 h1
    have t0' : (T == -1) = false := beq_eq_false_iff_ne.2 h1
    cases ht : tmB T
    · obtain rfl : c = 1 := by
        have := tmB_false.1 ht
        rw [← hc]; unfold winE; rw [if_pos (by omega)]
      rw [ht] at TM
      clear hc h1 ht
      go_enter Tryd.func26, Tryd.ntmps26
      go_wp2_with fail
      refine (TM.out _).mono ?_
      rintro e w1 ⟨rfl, rfl⟩
      go_wp2
      go_ret
      exact ⟨rfl, by go_grown⟩
    · obtain ⟨y0, y1⟩ := tmB_true.1 ht
      rw [ht] at TM
      by_cases h2 : B < 0 ∨ 4294967295 < B
      · obtain rfl : c = 1 := by rw [← hc]; unfold winE; rw [if_pos (by omega)]
        clear hc h1 ht
        rcases h2 with h2 | h2
        · go_enter Tryd.func26, Tryd.ntmps26
          go_wp2_with fail
          refine (TM.out _).mono ?_
          rintro e w1 ⟨rfl, rfl⟩
          go_wp2
          go_ret
          exact ⟨rfl, by go_grown⟩
        · have h3 : 0 ≤ B := by omega
          go_enter Tryd.func26, Tryd.ntmps26
          go_wp2_with fail
          refine (TM.out _).mono ?_
          rintro e w1 ⟨rfl, rfl⟩
          go_wp2
          go_ret
          exact ⟨rfl, by go_grown⟩
      · have h4 : 0 ≤ B := by omega
        have h5 : B ≤ 4294967295 := by omega
        have hx := and_one_i64 B h4 (by omega)
        obtain ⟨q, hq⟩ : ∃ q, B % 2 = q := ⟨_, rfl⟩
        rw [hq] at hx
        unfold winE at hc
        rw [if_neg (by omega), if_neg h1, hq] at hc
        clear h1 h2 ht
        by_cases hb : q = 0
        · rw [if_pos hb] at hc
          subst hc
          have t1 : (q == 0) = true := by simp [hb]
          clear hq hb
          go_enter Tryd.func26, Tryd.ntmps26
          go_wp2_with fail
          refine (TM.out _).mono ?_
          rintro e w1 ⟨rfl, rfl⟩
          go_wp2
          go_ret
          exact ⟨rfl, by go_grown⟩
        · rw [if_neg hb] at hc
          have t1 : (q == 0) = false := beq_eq_false_iff_ne.2 hb
          clear hq hb
          by_cases h31 : T < 31
          · obtain ⟨z, hz⟩ : ∃ z, B / 2 ^ (T + 1).toNat = z := ⟨_, rfl⟩
            rw [hz] at hc
            by_cases hz0 : z = 0
            · rw [if_neg (fun h => h.2 hz0)] at hc
              subst hc
              have t2 : (z != 0) = false := by simp [hz0]
              clear hz0
              go_enter Tryd.func26, Tryd.ntmps26
              go_wp2_with fail
              refine (TM.out _).mono ?_
              rintro e w1 ⟨rfl, rfl⟩
              go_wp2
              go_ret
              exact ⟨rfl, by go_grown⟩
            · rw [if_pos ⟨h31, hz0⟩] at hc
              subst hc
              have t2 : (z != 0) = true := bne_iff_ne.2 hz0
              clear hz0
              go_enter Tryd.func26, Tryd.ntmps26
              go_wp2_with fail
              refine (TM.out _).mono ?_
              rintro e w1 ⟨rfl, rfl⟩
              go_wp2
              go_ret
              exact ⟨rfl, by go_grown⟩
          · rw [if_neg (fun h => h31 h.1)] at hc
            subst hc
            have h32 : 31 ≤ T := by omega
            clear h31
            go_enter Tryd.func26, Tryd.ntmps26
            go_wp2_with fail
            refine (TM.out _).mono ?_
            rintro e w1 ⟨rfl, rfl⟩
            go_wp2
            go_ret
            exact ⟨rfl, by go_grown⟩
theorem winE_ok {T B : Int} (h : winE T B = 0) : -1 ≤ T ∧ T ≤ 100000 ∧ 0 ≤ B ∧ B ≤ 4294967295 ∧ (T = -1 → B = 0) ∧ (T ≠ -1 → B % 2 = 1 ∧ (T < 31 → B / 2 ^ (T + 1).toNat = 0)) := by
  unfold winE at h
  by_cases h1 : T < -1 ∨ 100000 < T ∨ B < 0 ∨ 4294967295 < B
  · rw [if_pos h1] at h; omega
  · rw [if_neg h1] at h
    refine ⟨by omega, by omega, by omega, by omega, fun h2 => ?_, fun h2 => ?_⟩
    · rw [if_pos h2] at h
      refine Classical.byContradiction fun h3 => ?_
      rw [if_neg h3] at h; omega
    · rw [if_neg h2] at h
      by_cases h3 : B % 2 = 0
      · rw [if_pos h3] at h; omega
      · rw [if_neg h3] at h
        refine ⟨by omega, fun h4 => ?_⟩
        refine Classical.byContradiction fun h5 => ?_
        rw [if_pos ⟨h4, h5⟩] at h; omega
end Go.Proofs.YtgmljcpeklpniaaDoor
