/- foldref1: Take (of a window) by contract. -/
import Derived.Test.YtgmljcpeklpniaaDoorTopReplayProofM23
import Derived.Test.YtgmljcpeklpniaaDoorWindowT
namespace Go.Proofs.YtgmljcpeklpniaaDoor
open Go.RowKit

theorem sumBits_congr {f g : Nat → Bool} {n : Nat} (h : ∀ j, j < n → f j = g j) : sumBits f n = sumBits g n := by
  induction n with
  | zero => rfl
  | succ n ih => simp only [sumBits]; rw [ih (fun j hj => h j (by omega)), h n (by omega)]
/-- the bits of a window behind a number -/
def rtF (T : Int) (b : Nat) (n top : Int) (k : Nat) : Bool := cameB T b (top - k) || (top - k == n)
theorem rt_up {T n : Int} {b : Nat} (hb : b < 4294967296) (h : T < n) (_h0 : T = -1 → b = 0) (_hT : -1 ≤ T) (hs : T < 31 → (b : Int) / 2 ^ (T + 1).toNat = 0) : sumBits (rtF T b n n) 32 = winUp T b n := by
  have hz : ∀ i : Nat, T < i → i < 32 → b.testBit i = false := by
    intro i h1 h2
    have h3 := hs (by omega)
    rw [int_shr] at h3
    exact (bits_none b (T + 1).toNat hb).1 (by omega) i (by omega) h2
  unfold winUp
  by_cases h32 : n - T < 32
  · rw [if_pos h32, ← win_up]
    apply sumBits_congr
    intro j hj
    unfold rtF cameB
    have e1 : (n - (j : Int) == n) = (j == 0) := by rw [Bool.eq_iff_iff]; simp only [beq_iff_eq]; omega
    rw [e1]
    congr 1
    by_cases h1 : (n - T).toNat ≤ j
    · rw [decide_eq_true (show n - (j : Int) ≤ T ∧ T - 31 ≤ n - (j : Int) by omega), decide_eq_true h1]
      rw [show (T - (n - (j : Int))).toNat = j - (n - T).toNat by omega]
    · rw [decide_eq_false (by omega), decide_eq_false h1, Bool.false_and, Bool.false_and]
  · rw [if_neg h32, ← win_far]
    apply sumBits_congr
    intro j hj
    unfold rtF cameB
    have e1 : (n - (j : Int) == n) = (j == 0) := by rw [Bool.eq_iff_iff]; simp only [beq_iff_eq]; omega
    rw [e1, decide_eq_false (by omega), Bool.false_and, Bool.false_or]
theorem rt_back {T n : Int} {b : Nat} (hb : b < 4294967296) (h : n ≤ T) (h32 : T - n < 32) : sumBits (rtF T b n T) 32 = b ||| (1 <<< (T - n).toNat) := by
  rw [← win_back b (T - n).toNat (by omega) (by omega)]
  apply sumBits_congr
  intro j hj
  unfold rtF cameB
  have e1 : (T - (j : Int) == n) = (j == (T - n).toNat) := by rw [Bool.eq_iff_iff]; simp only [beq_iff_eq]; omega
  rw [e1, decide_eq_true (show T - (j : Int) ≤ T ∧ T - 31 ≤ T - (j : Int) by omega), Bool.true_and]
  rw [show (T - (T - (j : Int))).toNat = j by omega]
theorem winB_lt {T B : Int} (h : winE T B = 0) : ∃ b : Nat, B = b ∧ b < 4294967296 := ⟨B.toNat, by have := winE_ok h; omega, by have := winE_ok h; omega⟩

end Go.Proofs.YtgmljcpeklpniaaDoor
