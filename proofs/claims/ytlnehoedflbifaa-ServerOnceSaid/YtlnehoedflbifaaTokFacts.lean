/- What the fault of a token that was made is. No program in sight. -/
import Derived.Test.YtlnehoedflbifaaTokenC
import Derived.Test.YtlnehoedflbifaaTokenM
namespace Go.Proofs.Ytlnehoedflbifaa
theorem tokE_at {e k o te key a t ad now li : Int} (hr : ringE e k o = 0) (hte : epB te = true) (hO : ringOfN e k o te = (key, 0)) (ha : inB a = true) (ht : tmB t = true) (h1 : inB ad = true) (h2 : tmB now = true) (h3 : tmB li = true) :
    tokE e k o te a t (tagOf key [1, a, t]) ad now li = if a ≠ ad then 7 else if now < t ∨ li < now - t then 9 else 0 := by
  have hR : tokR te a t (tagOf key [1, a, t]) = true := by simp [tokR, hte, ha, ht, inB_true.2 (tagOf_in key [1, a, t])]
  unfold tokE
  rw [if_neg (by simp [hr]), if_neg (by simp [hR, h1, h2, h3]), hO]
  simp
theorem tokE_late {e k o te key a t g ad now li x : Int} (hr : ringE e k o = 0) (hte : epB te = true) (hO : ringOfN e k o te = (x, 9)) (ha : inB a = true) (ht : tmB t = true) (hg : g = tagOf key [1, a, t]) (h1 : inB ad = true) (h2 : tmB now = true) (h3 : tmB li = true) :
    tokE e k o te a t g ad now li = 9 := by
  subst hg
  have hR : tokR te a t (tagOf key [1, a, t]) = true := by simp [tokR, hte, ha, ht, inB_true.2 (tagOf_in key [1, a, t])]
  unfold tokE
  rw [if_neg (by simp [hr]), if_neg (by simp [hR, h1, h2, h3]), hO]
  simp
theorem tokE_seal {e k o te key a t g ad now li : Int} (hr : ringE e k o = 0) (hte : epB te = true) (hO : ringOfN e k o te = (key, 0)) (ha : inB a = true) (ht : tmB t = true) (hg : inB g = true) (hn : g ≠ tagOf key [1, a, t]) (h1 : inB ad = true) (h2 : tmB now = true) (h3 : tmB li = true) :
    tokE e k o te a t g ad now li = 8 := by
  have hR : tokR te a t g = true := by simp [tokR, hte, ha, ht, hg]
  unfold tokE
  rw [if_neg (by simp [hr]), if_neg (by simp [hR, h1, h2, h3]), hO]
  simp [Ne.symm hn]
theorem tokE_range {e k o te a t g ad now li : Int} (hr : ringE e k o = 0) (h : (inB ad && tmB now && tmB li) = false) : tokE e k o te a t g ad now li = 1 := by
  unfold tokE
  rw [if_neg (by simp [hr]), if_pos (by rw [h]; rfl)]
theorem ringOfN_self (e k o : Int) : ringOfN e k o e = (k, 0) := by simp [ringOfN]
theorem ringOfN_elder (e k o : Int) : ringOfN (e + 1) k o e = (o, 0) := by
  unfold ringOfN; rw [if_neg (by omega), if_pos (by omega)]
theorem ringOfN_gone (e k o d : Int) (h : 2 ≤ d) : ringOfN (e + d) k o e = (0, 9) := by
  unfold ringOfN; rw [if_neg (by omega), if_neg (by omega), if_neg (by omega)]
end Go.Proofs.Ytlnehoedflbifaa
