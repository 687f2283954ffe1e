/- foldref1: Window, Came by contracts. -/
import Derived.Test.YtelegodagepeeaaDoorWindow
import Derived.Test.YtelegodagepeeaaDoorRBit
import Derived.Test.YtelegodagepeeaaDoorRTime
namespace Go.Proofs.YtelegodagepeeaaDoor
open Go.RowKit

theorem rBit_eq {n k : Nat} {v : Bool} (h : n.testBit k = v) (hn : n < 9223372036854775808) (hk : k ≤ 100) (w : World) : Calls Tryd.prog 50 #[.int .i64 (n : Int), .int .i64 (k : Int)] w fun e w' => e = .returned (.bool v) ∧ w = w' := by
  have g := rBit n k w hn hk
  rwa [h] at g
/-- no bit from k on, of 32 -/
theorem bits_none (b k : Nat) (hb : b < 4294967296) : (b / 2 ^ k = 0) ↔ ∀ j, k ≤ j → j < 32 → b.testBit j = false := by
  constructor
  · intro h j h1 _
    apply Nat.testBit_lt_two_pow
    have h2 : b < 2 ^ k := by
      rcases Nat.lt_or_ge b (2 ^ k) with h3 | h3
      · exact h3
      · have := Nat.div_pos h3 (Nat.two_pow_pos k); omega
    exact Nat.lt_of_lt_of_le h2 (Nat.pow_le_pow_right (by decide) h1)
  · intro h
    apply Nat.eq_of_testBit_eq
    intro i
    rw [Nat.testBit_div_two_pow, Nat.zero_testBit]
    by_cases h1 : i + k < 32
    · exact h (i + k) (by omega) h1
    · exact Nat.testBit_lt_two_pow (Nat.lt_of_lt_of_le (show b < 2 ^ 32 by simpa using hb) (Nat.pow_le_pow_right (by decide) (by omega)))
set_option maxHeartbeats 4000000 in
theorem rWindow_loop {T : Int} {b : Nat} (h0 : 0 ≤ T) (h1 : T ≤ 100000) (hb : b < 4294967296) (h2 : (b : Int) % 2 = 1) (c : Int) (hc : (if T < 31 ∧ b / 2 ^ (T + 1).toNat ≠ 0 then (3 : Int) else 0) = c) (w : World) :
    Calls Tryd.prog 15 #[.agg #[.int .i64 T, .int .i64 (b : Int)]] w fun e w' => e = .returned (.int .i64 c) ∧ Below w.heap.size w w' := by
  have BT := hide (fun (k : Nat) (hk : k ≤ 100) W => rBit b k W (by omega) hk)
  have HC := hide hc
  have z0 : -1 ≤ T := by omega
  have z1 : (b : Int) ≤ 4294967295 := by omega
  have z2 : 0 ≤ (b : Int) := by omega
  have t1 : (T == -1) = false := beq_eq_false_iff_ne.2 (by omega)
  have t2 : ((b : Int) % 2 == 0) = false := beq_eq_false_iff_ne.2 (by omega)
  clear hc h2
  obtain ⟨q0, q1⟩ : (w.alloc (.cells #[.int .i64 T, .int .i64 (b : Int)] 23)).cell? ⟨w.heap.size, 1, none⟩ = some (.int .i64 (b : Int)) ∧ Below w.heap.size w (w.alloc (.cells #[.int .i64 T, .int .i64 (b : Int)] 23)) := ⟨by simp, (Below.refl _ _).alloc (Nat.le_refl _) _⟩
  have Q1 := hide q1
  clear q1
  go_enter Tryd.func15, Tryd.ntmps15
  go_wp2_with fail
  go_loopw [3] (fun i wr => ∃ k : Nat, i = .int .i64 k ∧ T + 1 ≤ k ∧ (k ≤ 32 ∨ k = (T + 1).toNat) ∧ Hid (∀ j, (T + 1).toNat ≤ j → j < k → j < 32 → b.testBit j = false) ∧ wr = w.alloc (.cells #[.int .i64 T, .int .i64 (b : Int)] 23)) (fun i _ => 32 - (intOf i).toNat)
  case atStart => exact ⟨(T + 1).toNat, by congr 1; omega, by omega, .inr rfl, hide (fun j _ _ _ => by omega), rfl⟩
  case round =>
    obtain ⟨k, rfl, hk, hk2, hall, rfl⟩ := hrel
    by_cases hlt : k < 32
    · have C := hide (BT.out k (by omega))
      cases hbit : b.testBit k
      · rw [hbit] at C
        have Hbit := hide hbit
        clear hbit
        go_wp2_with fail
        refine (C.out _).mono ?_
        rintro e w1 ⟨rfl, rfl⟩
        go_wp2
        go_roundw
        case rel =>
          refine ⟨k + 1, by go_num, by omega, by omega, hide (fun j h3 h4 h5 => ?_), by trivial⟩
          rcases Nat.lt_or_ge j k with h6 | h6
          · exact hall.out j h3 h6 h5
          · obtain rfl : j = k := by omega
            exact Hbit.out
        case measure => simp [intOf]; omega
      · rw [hbit] at C
        obtain rfl : c = 3 := by
          rw [← HC.out, if_pos]
          refine ⟨by omega, fun hz => ?_⟩
          have := (bits_none b (T + 1).toNat hb).1 hz k (by omega) hlt
          rw [hbit] at this; cases this
        clear hbit
        go_wp2_with fail
        refine (C.out _).mono ?_
        rintro e w1 ⟨rfl, rfl⟩
        go_wp2
        go_ret
        exact ⟨rfl, Q1.out⟩
    · obtain rfl : c = 0 := by
        rw [← HC.out, if_neg]
        rintro ⟨h3, h4⟩
        exact h4 ((bits_none b (T + 1).toNat hb).2 (fun j h5 h6 => hall.out j h5 (by omega) h6))
      have hge : 32 ≤ k := by omega
      go_wp2
      go_ret
      exact ⟨rfl, Q1.out⟩
set_option maxHeartbeats 1000000 in
theorem rWindow {T B c : Int} (hc : winE T B = c) (w : World) : Calls Tryd.prog 15 #[.agg #[.int .i64 T, .int .i64 B]] w fun e w' => e = .returned (.int .i64 c) ∧ Below w.heap.size w w' := by
  by_cases h1 : T < -1 ∨ 100000 < T ∨ B < 0 ∨ 4294967295 < B
  · obtain rfl : c = 1 := by rw [← hc]; unfold winE; rw [if_pos h1]
    clear hc
    have h2 : T < -1 ∨ (-1 ≤ T ∧ 100000 < T) ∨ ((-1 ≤ T ∧ T ≤ 100000) ∧ B < 0) ∨ ((-1 ≤ T ∧ T ≤ 100000) ∧ 0 ≤ B ∧ 4294967295 < B) := by omega
    clear h1
    rcases h2 with h | ⟨h1, h2⟩ | ⟨⟨h1, h2⟩, h3⟩ | ⟨⟨h1, h2⟩, h3, h4⟩
    all_goals
      go_enter Tryd.func15, Tryd.ntmps15
      go_wp2
      go_ret
      exact ⟨rfl, by go_grown⟩
  · have g1 : -1 ≤ T := by omega
    have g2 : T ≤ 100000 := by omega
    have g3 : 0 ≤ B := by omega
    have g4 : B ≤ 4294967295 := by omega
    by_cases h2 : T = -1
    · subst h2
      by_cases h3 : B = 0
      · subst h3
        obtain rfl : c = 0 := by rw [← hc]; unfold winE; rw [if_neg h1, if_pos rfl, if_pos rfl]
        clear hc h1
        go_enter Tryd.func15, Tryd.ntmps15
        go_wp2
        go_ret
        exact ⟨rfl, by go_grown⟩
      · obtain rfl : c = 3 := by rw [← hc]; unfold winE; rw [if_neg h1, if_pos rfl, if_neg h3]
        have t1 : (B != 0) = true := bne_iff_ne.2 h3
        clear hc h1 h3
        go_enter Tryd.func15, Tryd.ntmps15
        go_wp2
        go_ret
        exact ⟨rfl, by go_grown⟩
    · by_cases h3 : B % 2 = 0
      · obtain rfl : c = 3 := by rw [← hc]; unfold winE; rw [if_neg h1, if_neg h2, if_pos h3]
        have t1 : (T == -1) = false := beq_eq_false_iff_ne.2 h2
        clear hc h1 h2
        go_enter Tryd.func15, Tryd.ntmps15
        go_wp2
        go_ret
        exact ⟨rfl, by go_grown⟩
      · have e : (if T < 31 ∧ B.toNat / 2 ^ (T + 1).toNat ≠ 0 then (3 : Int) else 0) = c := by
          rw [← hc]; unfold winE; rw [if_neg h1, if_neg h2, if_neg h3]
          have h4 : (B / 2 ^ (T + 1).toNat ≠ 0) ↔ (B.toNat / 2 ^ (T + 1).toNat ≠ 0) := by
            have h5 := int_shr B.toNat (T + 1).toNat
            rw [show ((B.toNat : Nat) : Int) = B by omega] at h5
            rw [h5]; omega
          by_cases h6 : T < 31 ∧ B / 2 ^ (T + 1).toNat ≠ 0
          · rw [if_pos h6, if_pos ⟨h6.1, h4.1 h6.2⟩]
          · rw [if_neg h6, if_neg (fun h => h6 ⟨h.1, h4.2 h.2⟩)]
        have g := rWindow_loop (T := T) (b := B.toNat) (by omega) g2 (by omega) (by omega) c e w
        rwa [show ((B.toNat : Nat) : Int) = B by omega] at g
/-- came a number? -/
def cameB (T : Int) (b : Nat) (n : Int) : Bool := decide (n ≤ T ∧ T - 31 ≤ n) && b.testBit (T - n).toNat
theorem rCame {T n : Int} {b : Nat} (hT : -1 ≤ T) (hT2 : T ≤ 100000) (hb : b < 4294967296) (_hn : -100000 ≤ n) (_hn2 : n ≤ 100000) {v : Bool} (hv : cameB T b n = v) (w : World) :
    Calls Tryd.prog 53 #[.agg #[.int .i64 T, .int .i64 (b : Int)], .int .i64 n] w fun e w' => e = .returned (.bool v) ∧ Below w.heap.size w w' := by
  have hc : T < n ∨ (n ≤ T ∧ n < T - 31) ∨ (n ≤ T ∧ T - 31 ≤ n) := by omega
  rcases hc with h | ⟨h1, h2⟩ | ⟨h1, h2⟩
  · obtain rfl : v = false := by rw [← hv]; unfold cameB; rw [decide_eq_false (by omega)]; rfl
    clear hv
    go_enter Tryd.func53, Tryd.ntmps53
    go_wp2
    go_ret
    exact ⟨rfl, by go_grown⟩
  · obtain rfl : v = false := by rw [← hv]; unfold cameB; rw [decide_eq_false (by omega)]; rfl
    clear hv
    go_enter Tryd.func53, Tryd.ntmps53
    go_wp2
    go_ret
    exact ⟨rfl, by go_grown⟩
  · have hv2 : b.testBit (T - n).toNat = v := by rw [← hv]; unfold cameB; rw [decide_eq_true ⟨h1, h2⟩]; rfl
    have C := hide (rBit_eq hv2 (by omega) (by omega))
    rw [show (((T - n).toNat : Nat) : Int) = T - n by omega] at C
    clear hv hv2
    go_enter Tryd.func53, Tryd.ntmps53
    go_wp2_with fail
    refine (C.out _).mono ?_
    rintro e w1 ⟨rfl, rfl⟩
    go_wp2
    go_ret
    exact ⟨rfl, by go_grown⟩
end Go.Proofs.YtelegodagepeeaaDoor
