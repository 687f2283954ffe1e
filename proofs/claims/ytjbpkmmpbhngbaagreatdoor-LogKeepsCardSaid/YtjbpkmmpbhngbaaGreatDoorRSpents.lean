/- foldref1: Spents; foldsame: Spent; spent: Has, Drop by contracts. -/
import Derived.Test.YtjbpkmmpbhngbaaGreatDoorRSpent
import Derived.Test.YtjbpkmmpbhngbaaGreatDoorLogKeepsProofM37
import Derived.BigQuiet
namespace Go.Proofs.YtjbpkmmpbhngbaaGreatDoor
open Go.RowKit

theorem psl_some {w : World} {v : Value} {zs : List (Int × Int)} (h : PSl w v zs) (hn : zs ≠ []) : ∃ b off c, v = .slice (some ⟨b, off, none⟩) zs.length c ∧ zs.length ≤ c ∧ b < w.heap.size ∧ PC w b off zs := by
  rcases h.2 with ⟨h0, _⟩ | h1
  · exact absurd h0 hn
  · exact h1
theorem psl_nil {w : World} {v : Value} (h : PSl w v []) : ∃ a c, v = .slice a 0 c := by
  rcases h.2 with ⟨_, a, c, rfl⟩ | ⟨b, off, c, rfl, _⟩
  · exact ⟨a, c, rfl⟩
  · exact ⟨_, c, rfl⟩
set_option maxHeartbeats 4000000 in
theorem sameSpent {v1 v2 : Value} {zs : List (Int × Int)} (w : World) (h1 : PSl w v1 zs) (h2 : PSl w v2 zs) :
    Calls Tryz.prog 17 #[v1, v2] w fun e w' => e = .returned (.bool true) ∧ Below w.heap.size w w' := by
  by_cases h0 : zs = []
  · subst h0
    obtain ⟨a1, c1, rfl⟩ := psl_nil h1
    obtain ⟨a2, c2, rfl⟩ := psl_nil h2
    clear h1 h2
    go_enter Tryz.func17, Tryz.ntmps17
    go_wp2
    go_rounds 1
    go_ret
    exact ⟨rfl, Below.refl _ _⟩
  · have hl := h1.1
    obtain ⟨b1, o1, c1, rfl, hc1, hb1, hp1⟩ := psl_some h1 h0
    obtain ⟨b2, o2, c2, rfl, hc2, hb2, hp2⟩ := psl_some h2 h0
    obtain ⟨n, hn⟩ : ∃ n, n = zs.length := ⟨_, rfl⟩
    rw [← hn] at hc1 hc2 hl ⊢
    have Hn := hide hn
    have H1 := hide hp1
    have H2 := hide hp2
    clear h1 h2 h0 hp1 hp2 hn
    go_enter Tryz.func17, Tryz.ntmps17
    go_wp2
    go_loopw [5] (fun i wr => ∃ k : Nat, i = .int .i64 k ∧ k ≤ n ∧ Below w.heap.size w wr) (fun i _ => 2000 - (intOf i).toNat)
    case atStart => exact ⟨0, rfl, by omega, Below.refl _ _⟩
    case round =>
      obtain ⟨k, rfl, hk, hb⟩ := hrel
      by_cases hlt : k < n
      · have hkz : k < zs.length := by rw [← Hn.out]; exact hlt
        obtain ⟨p0, p1⟩ := H1.out.below hb1 hb k hkz
        obtain ⟨q0, q1⟩ := H2.out.below hb2 hb k hkz
        generalize zs.getD k (0, 0) = y at p0 p1 q0 q1
        obtain ⟨y1, y2⟩ := y
        simp only at p0 p1 q0 q1
        clear hkz
        go_wp2_with fail
        go_quiet (fail)
        go_wp2
        go_roundw
        case rel => exact ⟨k + 1, by go_num, by omega, by first | exact hb | exact hb.drew | exact bel_drewN hb _⟩
        case measure => simp [intOf] <;> omega
      · obtain rfl : k = n := by omega
        go_wp2
        go_ret
        exact ⟨rfl, hb⟩
theorem any_takeP {zs : List (Int × Int)} {k m : Nat} {n : Int} (hk : k ≤ zs.length) (hm : m < k) (h : ((zs.getD m (0, 0)).1 == n) = true) : (zs.take k).any (fun z => z.1 == n) = true := by
  rw [List.any_eq_true]
  refine ⟨zs.getD m (0, 0), ?_, h⟩
  rw [List.mem_iff_getElem]
  exact ⟨m, by rw [List.length_take]; omega, by rw [List.getElem_take]; simp [List.getD, List.getElem?_eq_getElem (show m < zs.length by omega)]⟩
theorem any_takeP_no {zs : List (Int × Int)} {k : Nat} {n : Int} (hk : k ≤ zs.length) (h : ∀ j, j < k → ((zs.getD j (0, 0)).1 == n) = false) : (zs.take k).any (fun z => z.1 == n) = false := by
  rw [List.any_eq_false]
  intro x hx hp
  obtain ⟨j, hj, rfl⟩ := List.mem_iff_getElem.1 hx
  have hj' : j < k := by rw [List.length_take] at hj; omega
  have := h j hj'
  rw [List.getElem_take] at hp
  simp only [List.getD, List.getElem?_eq_getElem (show j < zs.length by omega), Option.getD_some] at this
  rw [this] at hp
  exact absurd hp (by decide)
theorem lt_succP {p : Nat → Prop} {m : Nat} (h : ∀ j, j < m → p j) (hm : p m) : ∀ j, j < m + 1 → p j := by
  intro j hj
  rcases Nat.lt_or_ge j m with h1 | h1
  · exact h j h1
  · obtain rfl : j = m := by omega
    exact hm
end Go.Proofs.YtjbpkmmpbhngbaaGreatDoor
