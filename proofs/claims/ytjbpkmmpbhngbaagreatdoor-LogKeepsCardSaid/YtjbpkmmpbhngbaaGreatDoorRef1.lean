/- foldref1: In, Tag, Tagged by contracts. -/
import Derived.Test.YtjbpkmmpbhngbaaGreatDoorTag
namespace Go.Proofs.YtjbpkmmpbhngbaaGreatDoor
open Go.RowKit

theorem rIn (n : Int) (w : World) : Calls Tryz.prog 29 #[.int .i64 n] w fun e w' => e = .returned (.bool (inB n)) ∧ w = w' := by
  have hc : n < 0 ∨ (0 ≤ n ∧ 999983 ≤ n) ∨ (0 ≤ n ∧ n < 999983) := by omega
  rcases hc with h | ⟨h1, h2⟩ | ⟨h1, h2⟩
  all_goals
    go_enter Tryz.func29, Tryz.ntmps29
    go_wp2
    go_ret
    exact ⟨retB (by first | exact (decide_eq_true (by omega)).symm | exact (decide_eq_false (by omega)).symm | (simp only [inB, decide_eq_decide]; omega)), rfl⟩
theorem rIn_eq {n : Int} {v : Bool} (h : inB n = v) (w : World) : Calls Tryz.prog 29 #[.int .i64 n] w fun e w' => e = .returned (.bool v) ∧ w = w' := by
  have g := rIn n w
  rwa [h] at g

/-- the tag of the numbers of a row -/
theorem rTag_row (key : Int) (zs : List Int) (b off cap : Nat) (w : World) (hk : 0 ≤ key ∧ key < 999983) (hz : ∀ x ∈ zs, 0 ≤ x ∧ x < 999983) (hl : zs.length ≤ 1000)
    (hc : ∀ i, i < zs.length → w.cell? ⟨b, off + i, none⟩ = some (.int .i64 (zs.getD i 0))) :
    Calls Tryz.prog 40 #[.int .i64 key, .slice (some ⟨b, off, none⟩) zs.length cap] w fun e w' => e = .returned (.int .i64 (tagOf key zs)) ∧ w = w' := by
  obtain ⟨hk0, hk1⟩ := hk
  obtain ⟨n, hn⟩ : ∃ n, n = zs.length := ⟨_, rfl⟩
  have HC := hide hc
  clear hc
  rw [← hn] at hl ⊢
  have Hn := hide hn
  clear hn
  go_enter Tryz.func40, Tryz.ntmps40
  go_wp2
  go_loop [5, 6] (fun o i => ∃ k : Nat, i = .int .i64 k ∧ k ≤ n ∧ o = .int .i64 (tfold key (zs.take k))) (fun _ i => n - (intOf i).toNat)
  case atStart => exact ⟨0, rfl, by omega, rfl⟩
  case round =>
    obtain ⟨k, rfl, hk, rfl⟩ := hrel
    have hb := tfold_in key (zs.take k) ⟨hk0, hk1⟩
    obtain ⟨hb0, hb1⟩ := hb
    by_cases hlt : k < n
    · have hx := hz (zs.getD k 0) (by rw [List.getD, List.getElem?_eq_getElem (by rw [← Hn.out]; exact hlt)]; simp)
      have hcell := HC.out k (by rw [← Hn.out]; exact hlt)
      have hs : tfold key (zs.take (k + 1)) = (4099 * tfold key (zs.take k) + zs.getD k 0 + 1) % 999983 := by
        rw [take_snoc_getD zs k (by rw [← Hn.out]; exact hlt), tfold_snoc]; rfl
      have Hs := hide hs
      obtain ⟨x, hxe⟩ : ∃ x, x = zs.getD k 0 := ⟨_, rfl⟩
      rw [← hxe] at hx hcell
      have Hx := hide hxe
      obtain ⟨hx0, hx1⟩ := hx
      clear hs hxe hz
      go_wp2
      go_round
      case rel => exact ⟨k + 1, by go_num, by omega, by rw [Hs.out, ← Hx.out]⟩
      case measure => simp [intOf]; omega
    · obtain rfl : k = n := by omega
      have ht : tagOf key zs = (4099 * tfold key (zs.take k) + key) % 999983 := by
        rw [List.take_of_length_le (by rw [← Hn.out]; exact Nat.le_refl _)]; rfl
      have Ht := hide ht
      clear ht
      go_wp2
      go_ret
      exact ⟨retI Ht.out.symm, rfl⟩
theorem rTag_nil (key : Int) (a : Option Addr) (cap : Nat) (w : World) (hk : 0 ≤ key ∧ key < 999983) :
    Calls Tryz.prog 40 #[.int .i64 key, .slice a 0 cap] w fun e w' => e = .returned (.int .i64 (tagOf key [])) ∧ w = w' := by
  obtain ⟨hk0, hk1⟩ := hk
  go_enter Tryz.func40, Tryz.ntmps40
  go_wp2
  go_rounds 1
  go_ret
  exact ⟨rfl, rfl⟩
theorem rTag_any (key : Int) (a : Option Addr) (len cap : Nat) (zs : List Int) (w : World) (hk : 0 ≤ key ∧ key < 999983) (hr : IntRow w a len zs) (hz : ∀ x ∈ zs, 0 ≤ x ∧ x < 999983) (hl : len ≤ 1000) :
    Calls Tryz.prog 40 #[.int .i64 key, .slice a len cap] w fun e w' => e = .returned (.int .i64 (tagOf key zs)) ∧ w = w' := by
  obtain ⟨h1, _, _, h4⟩ := hr
  rcases h4 with h0 | ⟨b, off, rfl, _, hc⟩
  · subst h0
    obtain rfl : zs = [] := List.eq_nil_of_length_eq_zero h1
    exact rTag_nil key a cap w hk
  · subst h1
    exact rTag_row key zs b off cap w hk hz hl (fun i hi => by have := hc i 0 hi (by omega); simpa using this)
end Go.Proofs.YtjbpkmmpbhngbaaGreatDoor
