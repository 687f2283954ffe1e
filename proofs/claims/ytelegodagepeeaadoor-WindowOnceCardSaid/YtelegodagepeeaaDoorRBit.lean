/- foldref1: Bit by contract. -/
import Derived.Test.YtelegodagepeeaaDoorErrV
import Derived.Test.YtelegodagepeeaaDoorPlain
import Derived.Test.YtelegodagepeeaaDoorObj
import Derived.Handy
namespace Go.Proofs.YtelegodagepeeaaDoor
open Go.RowKit

/-- the k-th bit -/
theorem rBit (n k : Nat) (w : World) (hn : n < 9223372036854775808) (hk : k ≤ 100) : Calls Tryd.prog 50 #[.int .i64 (n : Int), .int .i64 (k : Int)] w fun e w' => e = .returned (.bool (n.testBit k)) ∧ w = w' := by
  go_enter Tryd.func50, Tryd.ntmps50
  go_wp2
  go_loop [0, 5] (fun m i => ∃ j x : Nat, i = .int .i64 j ∧ j ≤ k ∧ Hid (x = n / 2 ^ j) ∧ x < 9223372036854775808 ∧ m = .int .i64 x) (fun _ i => k - (intOf i).toNat)
  case atStart => exact ⟨0, n, rfl, by omega, hide (by simp), hn, rfl⟩
  case round =>
    obtain ⟨j, x, rfl, hj, hx, hxl, rfl⟩ := hrel
    by_cases hlt : j < k
    · go_wp2
      go_round
      case rel => exact ⟨j + 1, x / 2, by go_num, by omega, hide (by rw [hx.out, Nat.pow_succ, Nat.div_div_eq_div_mul]), by omega, by go_num⟩
      case measure => simp [intOf]; omega
    · obtain rfl : j = k := by omega
      have hb : (((x : Int) % 2) == 1) = n.testBit j := by
        rw [← bit_eq, ← hx.out]
        rw [Bool.eq_iff_iff]; simp only [beq_iff_eq]; omega
      have Hb := hide hb
      clear hb
      go_wp2
      go_ret
      exact ⟨retB Hb.out, rfl⟩
end Go.Proofs.YtelegodagepeeaaDoor
