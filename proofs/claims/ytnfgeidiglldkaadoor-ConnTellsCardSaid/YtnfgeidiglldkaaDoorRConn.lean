/- foldref1: Conn, Bit, Turned, Number by contracts. -/
import Derived.Test.YtnfgeidiglldkaaDoorConn
import Derived.Handy
namespace Go.Proofs.YtnfgeidiglldkaaDoor
open Go.RowKit

theorem rConn (s n : Int) (w : World) : Calls Tryd.prog 22 #[.agg #[.int .i64 s, .int .i64 n]] w fun e w' => e = .returned (.bool (connB s n)) ∧ Below w.heap.size w w' := by
  have hc : s < 0 ∨ (0 ≤ s ∧ 16 ≤ s) ∨ (0 ≤ s ∧ s < 16 ∧ n < 0) ∨ (0 ≤ s ∧ s < 16 ∧ 0 ≤ n ∧ 4096 ≤ n) ∨ (0 ≤ s ∧ s < 16 ∧ 0 ≤ n ∧ n < 4096) := by omega
  rcases hc with h | ⟨h1, h2⟩ | ⟨h1, h2, h3⟩ | ⟨h1, h2, h3, h4⟩ | ⟨h1, h2, h3, h4⟩
  all_goals
    go_enter Tryd.func22, Tryd.ntmps22
    go_wp2
    go_ret
    exact ⟨retB (by first | exact (decide_eq_true (by omega)).symm | exact (decide_eq_false (by omega)).symm | (simp only [connB, decide_eq_decide]; omega)), by go_grown⟩
theorem rConn_eq {s n : Int} {v : Bool} (h : connB s n = v) (w : World) : Calls Tryd.prog 22 #[.agg #[.int .i64 s, .int .i64 n]] w fun e w' => e = .returned (.bool v) ∧ Below w.heap.size w w' := by
  have g := rConn s n w
  rwa [h] at g

/-- the k-th bit -/
theorem rBit (n k : Nat) (w : World) (hn : n < 9223372036854775808) (hk : k ≤ 100) : Calls Tryd.prog 38 #[.int .i64 (n : Int), .int .i64 (k : Int)] w fun e w' => e = .returned (.bool (n.testBit k)) ∧ w = w' := by
  go_enter Tryd.func38, Tryd.ntmps38
  go_wp2
  go_loop [0, 5] (fun m i => ∃ j x : Nat, i = .int .i64 j ∧ j ≤ k ∧ Hid (x = n / 2 ^ j) ∧ x < 9223372036854775808 ∧ m = .int .i64 x) (fun _ i => k - (intOf i).toNat)
  case atStart => exact ⟨0, n, rfl, by omega, hide (by simp), hn, rfl⟩
  case round =>
    obtain ⟨j, x, rfl, hj, hx, hxl, rfl⟩ := hrel
    by_cases hlt : j < k
    · go_wp2
      go_round
      case rel => exact ⟨j + 1, x / 2, by go_num, by omega, hide (by rw [hx.out, Nat.pow_succ, Nat.div_div_eq_div_mul]), by omega, by go_num⟩
      case measure => simp [intOf]; omega
    · obtain rfl : j = k := by omega
      have hb : (((x : Int) % 2) == 1) = n.testBit j := by
        rw [← bit_eq, ← hx.out]
        rw [Bool.eq_iff_iff]; simp only [beq_iff_eq]; omega
      have Hb := hide hb
      clear hb
      go_wp2
      go_ret
      exact ⟨retB Hb.out, rfl⟩
theorem rTurned (n : Nat) (w : World) (hn : n < 65536) : Calls Tryd.prog 25 #[.int .i64 (n : Int)] w fun e w' => e = .returned (.int .i64 ((xn n : Nat) : Int)) ∧ w = w' := by
  have BT := hide (fun (k : Nat) (hk : k ≤ 100) W => rBit n k W (by omega) hk)
  go_enter Tryd.func25, Tryd.ntmps25
  go_wp2
  go_loop [3, 4, 5] (fun o p k => ∃ j x y : Nat, k = .int .i64 j ∧ j ≤ 16 ∧ Hid (x = sumBits (fun k => n.testBit k != (k % 2 == 0)) j) ∧ x < 65536 ∧ Hid (y = 2 ^ j) ∧ y ≤ 65536 ∧ o = .int .i64 x ∧ p = .int .i64 y) (fun _ _ k => 16 - (intOf k).toNat)
  case atStart => exact ⟨0, 0, 1, rfl, by omega, hide rfl, by omega, hide rfl, by omega, rfl, rfl⟩
  case round =>
    obtain ⟨j, x, y, rfl, hj, hx, hxl, hy, hyl, rfl, rfl⟩ := hrel
    by_cases hlt : j < 16
    · have C := hide (BT.out j (by omega))
      have hy2 : 2 * y ≤ 65536 := by
        have : 2 ^ (j + 1) ≤ 2 ^ 16 := Nat.pow_le_pow_right (by decide) (by omega)
        rw [hy.out]; rw [Nat.pow_succ] at this; omega
      have hx2 : x + y ≤ 65535 := by
        have h1 := sumBits_lt (fun k => n.testBit k != (k % 2 == 0)) j
        rw [← hx.out, ← hy.out] at h1
        omega
      have hs := hide (show sumBits (fun k => n.testBit k != (k % 2 == 0)) (j + 1) = x + if (n.testBit j != (j % 2 == 0)) then y else 0 by rw [hx.out, hy.out]; rfl)
      have hyy := hide (show 2 * y = 2 ^ (j + 1) by rw [hy.out, Nat.pow_succ]; omega)
      have hmod : ((((j : Nat) : Int) % 2) == 0) = (j % 2 == 0) := by rw [Bool.eq_iff_iff]; simp only [beq_iff_eq]; omega
      have Hm := hide hmod
      clear hmod
      cases hbit : n.testBit j
      · rw [hbit] at C hs
        cases hpar : (j % 2 == 0)
        · rw [hpar] at Hm hs
          have t1 : ((((j : Nat) : Int) % 2) == 0) = false := Hm.out
          clear hbit hpar
          go_wp2_with fail
          refine (C.out _).mono ?_
          rintro e w1 ⟨rfl, rfl⟩
          go_wp2
          go_round
          case rel => exact ⟨j + 1, x, 2 * y, by go_num, by omega, hide (by rw [hs.out]; simp), by omega, hyy, by omega, rfl, by go_num⟩
          case measure => simp [intOf]; omega
        · rw [hpar] at Hm hs
          have t1 : ((((j : Nat) : Int) % 2) == 0) = true := Hm.out
          clear hbit hpar
          go_wp2_with fail
          refine (C.out _).mono ?_
          rintro e w1 ⟨rfl, rfl⟩
          go_wp2
          go_round
          case rel => exact ⟨j + 1, x + y, 2 * y, by go_num, by omega, hide (by rw [hs.out]; simp), by omega, hyy, by omega, by go_num, by go_num⟩
          case measure => simp [intOf]; omega
      · rw [hbit] at C hs
        cases hpar : (j % 2 == 0)
        · rw [hpar] at Hm hs
          have t1 : ((((j : Nat) : Int) % 2) == 0) = false := Hm.out
          clear hbit hpar
          go_wp2_with fail
          refine (C.out _).mono ?_
          rintro e w1 ⟨rfl, rfl⟩
          go_wp2
          go_round
          case rel => exact ⟨j + 1, x + y, 2 * y, by go_num, by omega, hide (by rw [hs.out]; simp), by omega, hyy, by omega, by go_num, by go_num⟩
          case measure => simp [intOf]; omega
        · rw [hpar] at Hm hs
          have t1 : ((((j : Nat) : Int) % 2) == 0) = true := Hm.out
          clear hbit hpar
          go_wp2_with fail
          refine (C.out _).mono ?_
          rintro e w1 ⟨rfl, rfl⟩
          go_wp2
          go_round
          case rel => exact ⟨j + 1, x, 2 * y, by go_num, by omega, hide (by rw [hs.out]; simp), by omega, hyy, by omega, rfl, by go_num⟩
          case measure => simp [intOf]; omega
    · obtain rfl : j = 16 := by omega
      have hb : (x : Int) = ((xn n : Nat) : Int) := by rw [hx.out, turned n hn]; rfl
      have Hb := hide hb
      clear hb
      go_wp2
      go_ret
      exact ⟨retI Hb.out, rfl⟩
theorem rNumber (s n : Int) (w : World) (h : connB s n = true) : Calls Tryd.prog 23 #[.agg #[.int .i64 s, .int .i64 n]] w fun e w' => e = .returned (.int .i64 (connN s n)) ∧ Below w.heap.size w w' := by
  simp only [connB, decide_eq_true_eq] at h
  obtain ⟨h1, h2, h3, h4⟩ := h
  have C := hide (fun W => rTurned (4096 * s + n).toNat W (by omega))
  rw [show (((4096 * s + n).toNat : Nat) : Int) = 4096 * s + n by omega] at C
  have C2 : Hid (∀ W, Calls Tryd.prog 25 #[.int .i64 (4096 * s + n)] W fun e w' => e = .returned (.int .i64 (connN s n)) ∧ W = w') := C
  clear C
  go_enter Tryd.func23, Tryd.ntmps23
  go_wp2_with fail
  refine (C2.out _).mono ?_
  rintro e w1 ⟨rfl, rfl⟩
  go_wp2
  go_ret
  exact ⟨rfl, by go_grown⟩
end Go.Proofs.YtnfgeidiglldkaaDoor
