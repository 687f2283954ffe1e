/- What the fault of a ticket that was made is. No program in sight. -/
import Derived.Test.YtmbklchoplgdlaaDoorTicketC
import Derived.Test.YtmbklchoplgdlaaDoorTicket
namespace Go.Proofs.YtmbklchoplgdlaaDoor
theorem tickE_at {e k o te key n u now : Int} (hr : ringE e k o = 0) (hte : epB te = true) (hO : ringOfN e k o te = (key, 0)) (hn : inB n = true) (hu : tmB u = true) (h2 : tmB now = true) :
    tickE e k o te n u (tagOf key [2, n, u]) now = if u < now then 9 else 0 := by
  have hR : tickR te n u (tagOf key [2, n, u]) = true := by simp [tickR, hte, hn, hu, inB_true.2 (tagOf_in key [2, n, u])]
  unfold tickE
  rw [if_neg (by simp [hr]), if_neg (by simp [hR, h2]), hO]
  simp
theorem tickE_late {e k o te key n u g now x : Int} (hr : ringE e k o = 0) (hte : epB te = true) (hO : ringOfN e k o te = (x, 9)) (hn : inB n = true) (hu : tmB u = true) (hg : g = tagOf key [2, n, u]) (h2 : tmB now = true) :
    tickE e k o te n u g now = 9 := by
  subst hg
  have hR : tickR te n u (tagOf key [2, n, u]) = true := by simp [tickR, hte, hn, hu, inB_true.2 (tagOf_in key [2, n, u])]
  unfold tickE
  rw [if_neg (by simp [hr]), if_neg (by simp [hR, h2]), hO]
  simp
theorem tickE_seal {e k o te key n u g now : Int} (hr : ringE e k o = 0) (hte : epB te = true) (hO : ringOfN e k o te = (key, 0)) (hn : inB n = true) (hu : tmB u = true) (hg : inB g = true) (hne : g ≠ tagOf key [2, n, u]) (h2 : tmB now = true) :
    tickE e k o te n u g now = 8 := by
  have hR : tickR te n u g = true := by simp [tickR, hte, hn, hu, hg]
  unfold tickE
  rw [if_neg (by simp [hr]), if_neg (by simp [hR, h2]), hO]
  simp [Ne.symm hne]
/-- of numbers that are the same but for one -/
theorem tagOf_three1 {key a b c a' : Int} (hk : 0 ≤ key ∧ key < 999983) (ha : 0 ≤ a ∧ a < 999983) (hb : 0 ≤ b ∧ b < 999983) (hc : 0 ≤ c ∧ c < 999983) (ha' : 0 ≤ a' ∧ a' < 999983) (hne : a' ≠ b) : tagOf key [a, b, c] ≠ tagOf key [a, a', c] := by
  intro h
  have := (tagOf_set key [a, b, c] 1 a' (by simp) hk (by simp; omega) ha').1 (by simpa using h)
  simp at this
  exact hne this
theorem tagOf_three2 {key a b c a' : Int} (hk : 0 ≤ key ∧ key < 999983) (ha : 0 ≤ a ∧ a < 999983) (hb : 0 ≤ b ∧ b < 999983) (hc : 0 ≤ c ∧ c < 999983) (ha' : 0 ≤ a' ∧ a' < 999983) (hne : a' ≠ c) : tagOf key [a, b, c] ≠ tagOf key [a, b, a'] := by
  intro h
  have := (tagOf_set key [a, b, c] 2 a' (by simp) hk (by simp; omega) ha').1 (by simpa using h)
  simp at this
  exact hne this
end Go.Proofs.YtmbklchoplgdlaaDoor
