/- A window and the numbers that it took. -/
import Derived.Test.YtgmljcpeklpniaaDoorRWinB
namespace Go.Proofs.YtgmljcpeklpniaaDoor
open Go.RowKit

/-- the numbers that a window took -/
def woJ (T : Int) (b : Nat) (ts : List Int) : Prop := winE T b = 0 ∧ (∀ n ∈ ts, 0 ≤ n ∧ n ≤ T) ∧ ∀ n, 0 ≤ n → T - 32 < n → n ≤ T → (n ∈ ts ↔ b.testBit (T - n).toNat = true)
theorem came_neg {T m : Int} {b : Nat} (hw : winE T b = 0) (hm : m < 0) : cameB T b m = false := by
  obtain ⟨k1, k2, k3, k4, k5, k6⟩ := winE_ok hw
  unfold cameB
  by_cases h : m ≤ T ∧ T - 31 ≤ m
  · rw [decide_eq_true h, Bool.true_and]
    by_cases hT : T = -1
    · have : b = 0 := by have := k5 hT; omega
      subst this; simp
    have h2 := (k6 hT).2 (by omega)
    rw [int_shr] at h2
    exact (bits_none b (T + 1).toNat (by omega)).1 (by omega) (T - m).toNat (by omega) (by omega)
  · rw [decide_eq_false h, Bool.false_and]
/-- what is told of a window by its bits -/
theorem winE_of {T : Int} {b : Nat} (h0 : 0 ≤ T) (h1 : T ≤ 100000) (hb : b < 4294967296) (hodd : b.testBit 0 = true) (hz : ∀ j : Nat, T < j → j < 32 → b.testBit j = false) : winE T b = 0 := by
  unfold winE
  rw [if_neg (by omega), if_neg (by omega)]
  rw [Nat.testBit_zero, decide_eq_true_iff] at hodd
  rw [if_neg (by omega), if_neg]
  rintro ⟨h2, h3⟩
  apply h3
  rw [int_shr, (bits_none b (T + 1).toNat hb).2 (fun j h4 h5 => hz j (by omega) h5)]
  rfl
theorem wo_up {T n : Int} {b : Nat} {ts : List Int} (h : woJ T b ts) (ht : tmB n = true) (hlt : T < n) : woJ n (winUp T b n) (ts ++ [n]) := by
  obtain ⟨hw, h1, h2⟩ := h
  obtain ⟨n0, n1⟩ := tmB_true.1 ht
  obtain ⟨k1, k2, k3, k4, k5, k6⟩ := winE_ok hw
  have hb : b < 4294967296 := by omega
  have hs : winUp T b n = sumBits (rtF T b n n) 32 := by
    refine (rt_up hb hlt (fun h => by have := k5 h; omega) k1 (fun h => ?_)).symm
    by_cases h1 : T = -1
    · rw [k5 h1]; simp
    · exact (k6 h1).2 h
  have hbit : ∀ j, (winUp T b n).testBit j = (decide (j < 32) && (cameB T b (n - j) || (n - (j : Int) == n))) := by
    intro j; rw [hs, testBit_sumBits]; rfl
  refine ⟨winE_of n0 n1 (by have := winUp_le T b n; omega) (by rw [hbit]; simp) ?_, ?_, ?_⟩
  · intro j h3 h4
    rw [hbit, came_neg hw (by omega), show (n - (j : Int) == n) = false from beq_eq_false_iff_ne.2 (by omega)]; simp
  · intro m hm
    rcases List.mem_append.1 hm with hm | hm
    · have := h1 m hm; omega
    · simp at hm; omega
  · intro m m0 m1 m2
    rw [hbit, List.mem_append, List.mem_singleton, decide_eq_true (show (n - m).toNat < 32 by omega), Bool.true_and, show n - (((n - m).toNat : Nat) : Int) = m by omega, Bool.or_eq_true, beq_iff_eq]
    refine or_congr ?_ Iff.rfl
    by_cases h5 : m ≤ T
    · rw [h2 m m0 (by omega) h5]
      unfold cameB
      rw [decide_eq_true (by omega), Bool.true_and]
    · unfold cameB
      rw [decide_eq_false (by omega), Bool.false_and]
      refine ⟨fun h6 => ?_, fun h6 => by cases h6⟩
      have := h1 m h6; omega
theorem wo_back {T n : Int} {b : Nat} {ts : List Int} (h : woJ T b ts) (ht : tmB n = true) (hle : n ≤ T) (h32 : T - n < 32) : woJ T (b ||| (1 <<< (T - n).toNat)) (ts ++ [n]) := by
  obtain ⟨hw, h1, h2⟩ := h
  obtain ⟨n0, n1⟩ := tmB_true.1 ht
  obtain ⟨k1, k2, k3, k4, k5, k6⟩ := winE_ok hw
  have hb : b < 4294967296 := by omega
  have hs : b ||| (1 <<< (T - n).toNat) = sumBits (rtF T b n T) 32 := (rt_back hb hle h32).symm
  have hbit : ∀ j, (b ||| (1 <<< (T - n).toNat)).testBit j = (decide (j < 32) && (cameB T b (T - j) || (T - (j : Int) == n))) := by
    intro j; rw [hs, testBit_sumBits]; rfl
  have h6 := k6 (by omega)
  have hlt : b ||| (1 <<< (T - n).toNat) < 4294967296 := by
    rw [hs]
    have := sumBits_lt (rtF T b n T) 32
    omega
  refine ⟨winE_of (by omega) k2 hlt ?_ ?_, ?_, ?_⟩
  · rw [Nat.testBit_or, Nat.testBit_zero, decide_eq_true (by omega)]; rfl
  · intro j h3 h4
    rw [hbit, came_neg hw (by omega), show (T - (j : Int) == n) = false from beq_eq_false_iff_ne.2 (by omega)]; simp
  · intro m hm
    rcases List.mem_append.1 hm with hm | hm
    · exact h1 m hm
    · simp at hm; omega
  · intro m m0 m1 m2
    rw [hbit, List.mem_append, List.mem_singleton, decide_eq_true (show (T - m).toNat < 32 by omega), Bool.true_and, show T - (((T - m).toNat : Nat) : Int) = m by omega, Bool.or_eq_true, beq_iff_eq]
    refine or_congr ?_ Iff.rfl
    rw [h2 m m0 m1 m2]
    unfold cameB
    rw [decide_eq_true (by omega), Bool.true_and]
/-- a number comes -/
theorem wo_step {T n : Int} {b : Nat} {ts : List Int} (h : woJ T b ts) :
    (tmB n = true ∧ ∃ (X : Int) (Y : Nat), woJ X Y (ts ++ [n]) ∧ n ∉ ts ∧ ∀ W, Calls Tryd.prog 22 #[.agg #[.int .i64 T, .int .i64 (b : Int)], .int .i64 n] W fun e w' => e = .returned (.tuple #[.agg #[.int .i64 X, .int .i64 (Y : Int)], errV 0]) ∧ Below W.heap.size W w') ∨
    (∃ c : Int, ((c = 1 ∧ (n < 0 ∨ (0 ≤ n ∧ 100000 < n))) ∨ (c = 9 ∧ 0 ≤ n ∧ n ≤ 100000 ∧ n ≤ T - 32) ∨ (c = 7 ∧ 0 ≤ n ∧ n ≤ 100000 ∧ T - 32 < n ∧ n ∈ ts)) ∧ ∀ W, Calls Tryd.prog 22 #[.agg #[.int .i64 T, .int .i64 (b : Int)], .int .i64 n] W fun e w' => e = .returned (.tuple #[.agg #[.int .i64 0, .int .i64 0], errV c]) ∧ Below W.heap.size W w') := by
  have hw := h.1
  have hj := h.2.2
  have hm := h.2.1
  cases ht : tmB n
  · refine .inr ⟨1, .inl ⟨rfl, ?_⟩, windowTake_bad (by unfold winTE; rw [if_neg (by simp [hw]), if_pos ht]) (by decide)⟩
    have := tmB_false.1 ht; omega
  · obtain ⟨n0, n1⟩ := tmB_true.1 ht
    by_cases hlt : T < n
    · refine .inl ⟨rfl, n, winUp T b n, wo_up h ht hlt, fun h1 => ?_, windowTake_up hw ht hlt⟩
      have := hm n h1; omega
    · by_cases h32 : T - n < 32
      · have hi := hj n n0 (by omega) (by omega)
        cases hb : b.testBit (T - n).toNat
        · rw [hb] at hi
          refine .inl ⟨rfl, T, b ||| (1 <<< (T - n).toNat), wo_back h ht (by omega) h32, fun h1 => by simpa using hi.1 h1, windowTake_back hw ht (by omega) h32 ?_⟩
          rw [Nat.testBit_eq_decide_div_mod_eq, decide_eq_false_iff_not] at hb
          rw [int_shr]; omega
        · rw [hb] at hi
          refine .inr ⟨7, .inr (.inr ⟨rfl, n0, n1, by omega, hi.2 rfl⟩), windowTake_bad ?_ (by decide)⟩
          rw [Nat.testBit_eq_decide_div_mod_eq, decide_eq_true_iff] at hb
          unfold winTE
          rw [if_neg (by simp [hw]), if_neg (by simp [ht]), if_neg hlt, if_neg (by omega), if_pos (by rw [int_shr]; omega)]
      · exact .inr ⟨9, .inr (.inl ⟨rfl, n0, n1, by omega⟩), windowTake_bad (by unfold winTE; rw [if_neg (by simp [hw]), if_neg (by simp [ht]), if_neg hlt, if_pos (by omega)]) (by decide)⟩
end Go.Proofs.YtgmljcpeklpniaaDoor
