/- The walk of JudgeMeans. -/
import Derived.Test.YtlnehoedflbifaaAnswer
import Derived.Test.YtlnehoedflbifaaTokFacts
import Derived.Test.YtlnehoedflbifaaRingNew
import Derived.Test.YtlnehoedflbifaaObj4
import Derived.Deep.Cut
namespace Go.Proofs.Ytlnehoedflbifaa
open Go.RowKit

theorem ans_ok {e k o a t0 t1 t2 t3 u0 u1 u2 u3 : Int} {s : ByteArray} {wt now li n : Int} {b : Bool} (h : ansN e k o a t0 t1 t2 t3 u0 u1 u2 u3 s wt now li = (n, b, 0)) :
    ringE e k o = 0 ∧ inB a = true ∧ tmB now = true ∧ tmB li = true ∧ needsOf wt (rightB e k o t0 t1 t2 t3 a now li) (oldB e k o u0 u1 u2 u3 now) = (n, 0) ∧ b = earlyB n (oldB e k o u0 u1 u2 u3 now) s := by
  unfold ansN at h
  by_cases hr : ringE e k o = 0
  · rw [if_neg (by simp [hr])] at h
    cases hx : (inB a && tmB now && tmB li)
    · rw [if_pos hx] at h; simp at h
    · rw [if_neg (by simp [hx])] at h
      simp only [Bool.and_eq_true] at hx
      obtain ⟨nv, nc, hn⟩ : ∃ v c, needsOf wt (rightB e k o t0 t1 t2 t3 a now li) (oldB e k o u0 u1 u2 u3 now) = (v, c) := ⟨_, _, rfl⟩
      rw [hn] at h
      simp only at h
      by_cases hc : nc = 0
      · rw [if_neg (by simp [hc])] at h
        simp only [Prod.mk.injEq] at h
        exact ⟨hr, hx.1.1, hx.1.2, hx.2, by rw [hn, h.1, hc], by rw [← h.1]; exact h.2.1.symm⟩
      · rw [if_pos hc] at h
        simp only [Prod.mk.injEq] at h
        exact absurd h.2.2 hc
  · rw [if_pos hr] at h
    simp only [Prod.mk.injEq] at h
    exact absurd h.2.2 hr
theorem ans_mk {e k o a t0 t1 t2 t3 u0 u1 u2 u3 : Int} {s : ByteArray} {wt now li n : Int} (hr : ringE e k o = 0) (ha : inB a = true) (hn : tmB now = true) (hl : tmB li = true) (h : needsOf wt (rightB e k o t0 t1 t2 t3 a now li) (oldB e k o u0 u1 u2 u3 now) = (n, 0)) :
    ansN e k o a t0 t1 t2 t3 u0 u1 u2 u3 s wt now li = (n, earlyB n (oldB e k o u0 u1 u2 u3 now) s, 0) := by
  unfold ansN
  rw [if_neg (by simp [hr]), if_neg (by simp [ha, hn, hl]), h]
  simp
theorem needs_cases {n v : Int} {t o : Bool} (h : needsOf n t o = (v, 0)) : (n = 8 ∧ v = 2) ∨ (0 ≤ n ∧ n < 4 ∧ v = 1) ∨ (4 ≤ n ∧ n < 8 ∧ o = true ∧ v = 1) ∨ (4 ≤ n ∧ n < 8 ∧ o = false ∧ t = true ∧ v = 1) ∨ (4 ≤ n ∧ n < 8 ∧ o = false ∧ t = false ∧ v = 0) := by
  unfold needsOf at h
  by_cases h1 : n < 0 ∨ 8 < n
  · rw [if_pos h1] at h; simp at h
  · rw [if_neg h1] at h
    by_cases h2 : n = 8
    · rw [if_pos h2] at h; simp only [Prod.mk.injEq] at h; exact .inl ⟨h2, h.1.symm⟩
    · rw [if_neg h2] at h
      by_cases h3 : 4 ≤ n ∧ t = false ∧ o = false
      · rw [if_pos h3] at h; simp only [Prod.mk.injEq] at h
        exact .inr (.inr (.inr (.inr ⟨h3.1, by omega, h3.2.2, h3.2.1, h.1.symm⟩)))
      · rw [if_neg h3] at h; simp only [Prod.mk.injEq] at h
        by_cases h4 : n < 4
        · exact .inr (.inl ⟨by omega, h4, h.1.symm⟩)
        · cases o
          · cases t
            · exact absurd ⟨by omega, rfl, rfl⟩ h3
            · exact .inr (.inr (.inr (.inl ⟨by omega, by omega, rfl, rfl, h.1.symm⟩)))
          · exact .inr (.inr (.inl ⟨by omega, by omega, rfl, h.1.symm⟩))
theorem early_true {n : Int} {o : Bool} {s : ByteArray} (h : earlyB n o s = true) : n = 1 ∧ o = true ∧ 0 < s.size ∧ s.size ≤ 40 := by
  simp only [earlyB, Bool.and_eq_true, beq_iff_eq, decide_eq_true_eq] at h
  exact ⟨h.1.1, h.1.2, h.2.1, h.2.2⟩
end Go.Proofs.Ytlnehoedflbifaa
