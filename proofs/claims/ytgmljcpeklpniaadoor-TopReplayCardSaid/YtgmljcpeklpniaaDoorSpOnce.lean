/- What was spent stays spent: plain lemmas, and contracts of spent over named lists. -/
import Derived.Test.YtgmljcpeklpniaaDoorTopReplayProofM32
namespace Go.Proofs.YtgmljcpeklpniaaDoor
open Go.RowKit

theorem spF_zero : ∀ (l pre : List (Int × Int)), spF pre l = 0 ↔ (∀ x ∈ l, (inB x.1 && tmB x.2) = true) ∧ l.Pairwise (fun x y => x.1 ≠ y.1) ∧ ∀ x ∈ l, pre.any (fun y => y.1 == x.1) = false
  | [], pre => by simp [spF]
  | x :: l, pre => by
    rw [spF]
    by_cases h1 : (inB x.1 && tmB x.2) = true
    · rw [if_neg (by rw [h1]; simp)]
      by_cases h2 : pre.any (fun y => y.1 == x.1) = true
      · rw [if_pos h2]
        constructor
        · intro h; exact absurd h (by decide)
        · intro h; exact absurd (h.2.2 x (List.mem_cons_self ..)) (by rw [h2]; decide)
      · rw [if_neg h2, spF_zero l (pre ++ [x])]
        have h2' : pre.any (fun y => y.1 == x.1) = false := Bool.eq_false_iff.2 h2
        constructor
        · rintro ⟨a, b, c⟩
          refine ⟨fun y hy => ?_, ?_, fun y hy => ?_⟩
          · rcases List.mem_cons.1 hy with rfl | hy
            · exact h1
            · exact a y hy
          · refine List.pairwise_cons.2 ⟨fun y hy => ?_, b⟩
            have := c y hy
            rw [List.any_append] at this
            simp at this
            exact this.2
          · rcases List.mem_cons.1 hy with rfl | hy
            · exact h2'
            · have := c y hy
              rw [List.any_append, Bool.or_eq_false_iff] at this
              exact this.1
        · rintro ⟨a, b, c⟩
          obtain ⟨b1, b2⟩ := List.pairwise_cons.1 b
          refine ⟨fun y hy => a y (List.mem_cons_of_mem _ hy), b2, fun y hy => ?_⟩
          rw [List.any_append, c y (List.mem_cons_of_mem _ hy)]
          simpa using b1 y hy
    · have h1' : (inB x.1 && tmB x.2) = false := by simpa using h1
      rw [if_pos h1']
      constructor
      · intro h; exact absurd h (by decide)
      · intro h; exact absurd (h.1 x (List.mem_cons_self ..)) (by rw [h1']; decide)
theorem spE_zero {zs : List (Int × Int)} : spE zs = 0 ↔ zs.length ≤ 16 ∧ (∀ x ∈ zs, (inB x.1 && tmB x.2) = true) ∧ zs.Pairwise (fun x y => x.1 ≠ y.1) := by
  unfold spE
  by_cases h : 16 < zs.length
  · rw [if_pos h]
    constructor
    · intro h'; exact absurd h' (by decide)
    · intro h'; omega
  · rw [if_neg h, spF_zero]
    constructor
    · rintro ⟨a, b, _⟩; exact ⟨by omega, a, b⟩
    · rintro ⟨_, a, b⟩; exact ⟨a, b, fun _ _ => rfl⟩
theorem spE_more {zs ns : List (Int × Int)} {n u now : Int} (h : spE zs = 0) (hc : spMoreE zs n u now = 0) (hn : spDrop zs now ++ [(n, u)] = ns) : spE ns = 0 ∧ ns.length ≤ 16 := by
  obtain ⟨_, h1, h2, _, _, h5, h6⟩ := (spMore_cases zs n u now).resolve_right (fun hx => hx hc)
  obtain ⟨a, b, c⟩ := spE_zero.1 h
  have hl := spDrop_le zs now
  have hlen : ns.length ≤ 16 := by rw [← hn]; simp; omega
  refine ⟨?_, hlen⟩
  rw [spE_zero]
  subst hn
  refine ⟨hlen, fun x hx => ?_, ?_⟩
  · rcases List.mem_append.1 hx with hx | hx
    · exact b x (List.mem_filter.1 hx).1
    · simp at hx; subst hx; simp [h1, h2]
  · rw [List.pairwise_append]
    refine ⟨c.filter _, by simp, fun x hx y hy => ?_⟩
    simp at hy; subst hy
    have := List.any_eq_false.1 h5 x hx
    simpa using this
/-- (n, u) is among what was spent, at a time at which it counts -/
def SOI (n u at_ : Int) (zs : List (Int × Int)) : Prop := spE zs = 0 ∧ zs.length ≤ 16 ∧ (n, u) ∈ zs ∧ at_ ≤ u ∧ tmB at_ = true ∧ inB n = true ∧ tmB u = true
theorem SOI.first {n u now : Int} {zs ns : List (Int × Int)} (h : spE zs = 0) (hc : spMoreE zs n u now = 0) (hn : spDrop zs now ++ [(n, u)] = ns) : SOI n u now ns := by
  obtain ⟨_, h1, h2, h3, h4, _, _⟩ := (spMore_cases zs n u now).resolve_right (fun hx => hx hc)
  obtain ⟨a, b⟩ := spE_more h hc hn
  exact ⟨a, b, by rw [← hn]; simp, h4, h3, h1, h2⟩
theorem SOI.step {n u at_ a b t : Int} {zs ns : List (Int × Int)} (h : SOI n u at_ zs) (hc : spMoreE zs a b t = 0) (hn : spDrop zs t ++ [(a, b)] = ns) (ht : t ≤ u) : SOI n u t ns := by
  obtain ⟨_, h1, h2, h3, h4, _, _⟩ := (spMore_cases zs a b t).resolve_right (fun hx => hx hc)
  obtain ⟨p, q⟩ := spE_more h.1 hc hn
  refine ⟨p, q, ?_, ht, h3, h.2.2.2.2.2.1, h.2.2.2.2.2.2⟩
  rw [← hn]
  refine List.mem_append_left _ ?_
  unfold spDrop
  exact List.mem_filter.2 ⟨h.2.2.1, by simp; omega⟩
theorem SOI.again {n u at_ : Int} {zs : List (Int × Int)} (h : SOI n u at_ zs) : spMoreE zs n u at_ = 7 := by
  obtain ⟨_, _, h3, h4, h5, h6, h7⟩ := h
  unfold spMoreE
  rw [if_neg (by simp [h5, h6, h7]), if_neg (by omega), if_pos]
  rw [List.any_eq_true]
  exact ⟨(n, u), by unfold spDrop; exact List.mem_filter.2 ⟨h3, by simp; omega⟩, by simp⟩
theorem SOI.has {n u at_ : Int} {zs : List (Int × Int)} (h : SOI n u at_ zs) : zs.any (fun x => x.1 == n) = true := by
  rw [List.any_eq_true]
  exact ⟨(n, u), h.2.2.1, by simp⟩
theorem spDrop_above {zs ds : List (Int × Int)} {u : Int} (h : spDrop zs (u + 1) = ds) : ∀ j, j < ds.length → u < (ds.getD j (0, 0)).2 := by
  intro j hj
  have hm : ds.getD j (0, 0) ∈ ds := by simp [List.getD, List.getElem?_eq_getElem hj]
  generalize ds.getD j (0, 0) = y at hm ⊢
  rw [← h] at hm
  unfold spDrop at hm
  have := (List.mem_filter.1 hm).2
  simp at this
  omega
theorem psl_form {w : World} {v : Value} {zs : List (Int × Int)} (h : PSl w v zs) : ∃ a c, v = .slice a zs.length c := by
  rcases h.2 with ⟨rfl, a, c, rfl⟩ | ⟨b, off, c, rfl, _⟩
  · exact ⟨a, c, rfl⟩
  · exact ⟨_, c, rfl⟩
end Go.Proofs.YtgmljcpeklpniaaDoor
