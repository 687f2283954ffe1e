/- foldref1: Bit by contract. foldref1: Time by contract. foldref1: Window, Came by contracts. -/
import Derived.Test.YtgmljcpeklpniaaDoorErrV
import Derived.Test.YtgmljcpeklpniaaDoorPlain
import Derived.Test.YtgmljcpeklpniaaDoorObj
import Derived.Handy
import Derived.Test.YtgmljcpeklpniaaDoorTime
import Derived.Test.YtgmljcpeklpniaaDoorWindow
namespace Go.Proofs.YtgmljcpeklpniaaDoor
open Go.RowKit

end Go.Proofs.YtgmljcpeklpniaaDoor

namespace Go.Proofs.YtgmljcpeklpniaaDoor
open Go.RowKit

end Go.Proofs.YtgmljcpeklpniaaDoor

namespace Go.Proofs.YtgmljcpeklpniaaDoor
open Go.RowKit

/-- no bit from k on, of 32 -/
theorem bits_none (b k : Nat) (hb : b < 4294967296) : (b / 2 ^ k = 0) ↔ ∀ j, k ≤ j → j < 32 → b.testBit j = false := by
  constructor
  · intro h j h1 _
    apply Nat.testBit_lt_two_pow
    have h2 : b < 2 ^ k := by
      rcases Nat.lt_or_ge b (2 ^ k) with h3 | h3
      · exact h3
      · have := Nat.div_pos h3 (Nat.two_pow_pos k); omega
    exact Nat.lt_of_lt_of_le h2 (Nat.pow_le_pow_right (by decide) h1)
  · intro h
    apply Nat.eq_of_testBit_eq
    intro i
    rw [Nat.testBit_div_two_pow, Nat.zero_testBit]
    by_cases h1 : i + k < 32
    · exact h (i + k) (by omega) h1
    · exact Nat.testBit_lt_two_pow (Nat.lt_of_lt_of_le (show b < 2 ^ 32 by simpa using hb) (Nat.pow_le_pow_right (by decide) (by omega)))
/-- came a number? -/
def cameB (T : Int) (b : Nat) (n : Int) : Bool := decide (n ≤ T ∧ T - 31 ≤ n) && b.testBit (T - n).toNat
end Go.Proofs.YtgmljcpeklpniaaDoor
