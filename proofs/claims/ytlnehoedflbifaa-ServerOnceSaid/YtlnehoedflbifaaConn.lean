/- conn: Right, Is, Number, Of, Route by contracts. -/
import Derived.Test.YtlnehoedflbifaaErrV
import Derived.Test.YtlnehoedflbifaaPlain
import Derived.Test.YtlnehoedflbifaaObj
import Derived.Test.YtlnehoedflbifaaConnR
import Derived.Handy
import Derived.Deep.QuietTactic
import Derived.BigQuiet
namespace Go.Proofs.Ytlnehoedflbifaa
open Go.RowKit

theorem bits_xor_i64 (a b : Nat) (ha : a < 9223372036854775808) (hb : b < 9223372036854775808) :
    bits .xor .i64 (a : Int) (b : Int) = ((a ^^^ b : Nat) : Int) := by
  have hx : a ^^^ b < 2 ^ 63 := Nat.xor_lt_two_pow (by omega) (by omega)
  have h1 : (BitVec.ofInt 64 (a : Int)).toNat = a := by
    rw [BitVec.ofInt_natCast, BitVec.toNat_ofNat]; exact Nat.mod_eq_of_lt (by omega)
  have h2 : (BitVec.ofInt 64 (b : Int)).toNat = b := by
    rw [BitVec.ofInt_natCast, BitVec.toNat_ofNat]; exact Nat.mod_eq_of_lt (by omega)
  show IntKind.i64.wrap ((BitVec.ofInt 64 (a : Int) ^^^ BitVec.ofInt 64 (b : Int)).toNat : Int) = _
  rw [BitVec.toNat_xor, h1, h2, IntKind.wrap_i64]
  omega

/-- its number -/
def connN (s n : Int) : Int := (xn (4096 * s + n).toNat : Int)

theorem connIs (s n : Int) (w : World) (h : connB s n = true) : Calls Try.prog 26 #[.agg #[.int .i64 s, .int .i64 n]] w fun e w' => e = .returned (.int .i64 (connN s n)) ∧ Below w.heap.size w w' := by
  simp only [connB, decide_eq_true_eq] at h
  obtain ⟨h1, h2, h3, h4⟩ := h
  have hx := bits_xor_i64 (4096 * s + n).toNat 21845 (by omega) (by omega)
  rw [show (((4096 * s + n).toNat : Nat) : Int) = 4096 * s + n by omega] at hx
  have hX := hide hx
  clear hx
  go_enter Try.func26, Try.ntmps26
  go_wp2
  go_ret
  exact ⟨retI hX.out, by go_grown⟩

/-- what Number tells -/
def connNum (s n : Int) : Int × Int := if connB s n then (connN s n, 0) else (0, 1)
theorem connNumber (s n : Int) (w : World) : Calls Try.prog 10 #[.agg #[.int .i64 s, .int .i64 n]] w fun e w' => e = .returned (.tuple #[.int .i64 (connNum s n).1, errV (connNum s n).2]) ∧ Below w.heap.size w w' := by
  have hR := hide (fun W => connRight s n W)
  cases hb : connB s n
  · have e1 : connNum s n = (0, 1) := by simp [connNum, hb]
    rw [e1]
    rw [hb] at hR
    go_enter Try.func10, Try.ntmps10
    go_wp2_with fail
    refine (hR.out _).mono ?_
    rintro e w1 ⟨rfl, hb1⟩
    go_wp2
    go_ret2
    exact ⟨rfl, ((Below.refl _ _).alloc (Nat.le_refl _) _).trans (hb1.mono (by simp))⟩
  · have e1 : connNum s n = (connN s n, 0) := by simp [connNum, hb]
    rw [e1]
    rw [hb] at hR
    have hI := hide (fun W => connIs s n W hb)
    clear hb
    go_enter Try.func10, Try.ntmps10
    go_wp2_with fail
    refine (hR.out _).mono ?_
    rintro e w1 ⟨rfl, hb1⟩
    obtain ⟨c1, c2⟩ := bcell hb1
    go_wp2_with fail
    refine (hI.out _).mono ?_
    rintro e w2 ⟨rfl, hb2⟩
    go_wp2
    go_ret2
    exact ⟨rfl, (((Below.refl _ _).alloc (Nat.le_refl _) _).trans (hb1.mono (by simp))).trans (hb2.mono (by have := hb1.size; simp at this; omega))⟩

theorem connN_in (s n : Int) (h : connB s n = true) : 0 ≤ connN s n ∧ connN s n < 65536 := by
  simp only [connB, decide_eq_true_eq] at h
  have := xn_lt (4096 * s + n).toNat (by omega)
  unfold connN; omega

/-- what Of tells -/
def connOfN (n : Int) : Int × Int × Int := if 0 ≤ n ∧ n < 65536 then ((xn n.toNat : Int) / 4096, (xn n.toNat : Int) % 4096, 0) else (0, 0, 1)
/-- where Route leads -/
def routeN (n sh : Int) : Int × Int := if 0 ≤ n ∧ n < 65536 ∧ 1 ≤ sh ∧ sh ≤ 16 then ((connOfN n).1 % sh, 0) else (0, 1)
theorem connNumber_eq {s n v c : Int} (h : connNum s n = (v, c)) (w : World) : Calls Try.prog 10 #[.agg #[.int .i64 s, .int .i64 n]] w fun e w' => e = .returned (.tuple #[.int .i64 v, errV c]) ∧ Below w.heap.size w w' := by
  have g := connNumber s n w
  rwa [h] at g
theorem connOf_back (s n : Int) (h : connB s n = true) : connOfN (connN s n) = (s, n, 0) := by
  have h0 := connN_in s n h
  unfold connOfN
  rw [if_pos h0]
  have e : (connN s n).toNat = xn (4096 * s + n).toNat := by unfold connN; omega
  rw [e, xn_xn]
  simp only [connB, decide_eq_true_eq] at h
  have e1 : (((4096 * s + n).toNat : Nat) : Int) = 4096 * s + n := by omega
  rw [e1]
  have e2 : (4096 * s + n) / 4096 = s := by omega
  have e3 : (4096 * s + n) % 4096 = n := by omega
  rw [e2, e3]

theorem connOf_right (n : Int) (h0 : 0 ≤ n) (h1 : n < 65536) : ∃ s m, connOfN n = (s, m, 0) ∧ connB s m = true ∧ connN s m = n := by
  have h2 := xn_lt n.toNat (by omega)
  refine ⟨_, _, by unfold connOfN; rw [if_pos ⟨h0, h1⟩], ?_, ?_⟩
  · simp only [connB, decide_eq_true_eq]; omega
  · unfold connN
    have e : (4096 * (((xn n.toNat : Nat) : Int) / 4096) + ((xn n.toNat : Nat) : Int) % 4096).toNat = xn n.toNat := by omega
    rw [e, xn_xn]; omega
theorem connN_inj {s n t m : Int} (h : connB s n = true) (k : connB t m = true) (e : connN s n = connN t m) : s = t ∧ n = m := by
  have h1 := connOf_back s n h
  have h2 := connOf_back t m k
  rw [e, h2] at h1
  simp only [Prod.mk.injEq, and_true] at h1
  exact ⟨h1.1.symm, h1.2.symm⟩
end Go.Proofs.Ytlnehoedflbifaa
