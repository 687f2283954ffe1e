/- foldref1: Tagged by contract. -/
import Derived.Test.YtnfgeidiglldkaaDoorRef1
namespace Go.Proofs.YtnfgeidiglldkaaDoor
open Go.RowKit

theorem rTagged_key (key : Int) (a : Option Addr) (len cap : Nat) (w : World) (hk : inB key = false) :
    Calls Tryd.prog 32 #[.int .i64 key, .slice a len cap] w fun e w' => e = .returned (.int .i64 1) ∧ w = w' := by
  have T0 := hide (fun W => rIn_eq hk W)
  clear hk
  go_enter Tryd.func32, Tryd.ntmps32
  go_wp2_with fail
  refine (T0.out _).mono ?_
  rintro e w1 ⟨rfl, rfl⟩
  go_wp2
  go_ret
  exact ⟨rfl, rfl⟩
theorem rTagged_full (key : Int) (a : Option Addr) (len cap : Nat) (w : World) (hk : inB key = true) (hl : 12 < len) (hm : len ≤ maxLen) :
    Calls Tryd.prog 32 #[.int .i64 key, .slice a len cap] w fun e w' => e = .returned (.int .i64 4) ∧ w = w' := by
  have T0 := hide (fun W => rIn_eq hk W)
  unfold maxLen at hm
  clear hk
  go_enter Tryd.func32, Tryd.ntmps32
  go_wp2_with fail
  refine (T0.out _).mono ?_
  rintro e w1 ⟨rfl, rfl⟩
  go_wp2
  go_ret
  exact ⟨rfl, rfl⟩
theorem rTagged_nil (key : Int) (a : Option Addr) (cap : Nat) (w : World) (hk : inB key = true) :
    Calls Tryd.prog 32 #[.int .i64 key, .slice a 0 cap] w fun e w' => e = .returned (.int .i64 0) ∧ w = w' := by
  have T0 := hide (fun W => rIn_eq hk W)
  clear hk
  go_enter Tryd.func32, Tryd.ntmps32
  go_wp2_with fail
  refine (T0.out _).mono ?_
  rintro e w1 ⟨rfl, rfl⟩
  go_wp2_with fail
  go_rounds 1
  go_ret
  exact ⟨rfl, rfl⟩
theorem rTagged_row (key : Int) (b off len cap : Nat) (zs : List Int) (w : World) (hk : inB key = true) (hlen : zs.length = len) (hl : len ≤ 12) (c : Int) (hz : (if zs.all inB then 0 else 1) = c)
    (hc : ∀ i, i < len → w.cell? ⟨b, off + i, none⟩ = some (.int .i64 (zs.getD i 0))) :
    Calls Tryd.prog 32 #[.int .i64 key, .slice (some ⟨b, off, none⟩) len cap] w fun e w' => e = .returned (.int .i64 c) ∧ w = w' := by
  have T0 := hide (fun W => rIn_eq hk W)
  have TI : Hid (∀ i, i < len → ∀ W, Calls Tryd.prog 28 #[.int .i64 (zs.getD i 0)] W fun e w' => e = .returned (.bool (inB (zs.getD i 0))) ∧ W = w') := fun i _ W => rIn _ W
  have HC := hide hc
  have HZ := hide hz
  have HL := hide hlen
  clear hc hk hz hlen
  go_enter Tryd.func32, Tryd.ntmps32
  go_wp2_with fail
  refine (T0.out _).mono ?_
  rintro e w1 ⟨rfl, rfl⟩
  go_wp2_with fail
  go_loop [6] (fun i => ∃ k : Nat, i = .int .i64 k ∧ k ≤ len ∧ (zs.take k).all inB = true) (fun i => len - (intOf i).toNat)
  case atStart => exact ⟨0, rfl, by omega, rfl⟩
  case round =>
    obtain ⟨k, rfl, hk, hall⟩ := hrel
    have Hall := hide hall
    clear hall
    by_cases hlt : k < len
    · have hcell := HC.out k hlt
      have TK := hide (TI.out k hlt)
      obtain ⟨x, hx⟩ : ∃ x, x = zs.getD k 0 := ⟨_, rfl⟩
      rw [← hx] at hcell TK
      have Hx := hide hx
      clear hx
      cases hi : inB x
      · rw [hi] at TK
        have hc1 : c = 1 := by
          rw [← HZ.out, if_neg]
          intro h
          have := List.all_eq_true.1 h x (by rw [Hx.out, List.getD, List.getElem?_eq_getElem (by rw [HL.out]; exact hlt)]; simp)
          rw [this] at hi; cases hi
        subst hc1
        clear hi
        go_wp2_with fail
        refine (TK.out _).mono ?_
        rintro e w1 ⟨rfl, rfl⟩
        go_wp2
        go_ret
        exact ⟨rfl, rfl⟩
      · rw [hi] at TK
        have Hi := hide hi
        clear hi
        go_wp2_with fail
        refine (TK.out _).mono ?_
        rintro e w1 ⟨rfl, rfl⟩
        go_wp2
        go_round
        case rel => exact ⟨k + 1, by go_num, by omega, by rw [take_snoc_getD zs k (by rw [HL.out]; exact hlt), List.all_append, Hall.out, ← Hx.out]; simp [Hi.out]⟩
        case measure => simp [intOf]; omega
    · have h := Hall.out
      rw [List.take_of_length_le (by rw [HL.out]; omega)] at h
      have hc0 : c = 0 := by rw [← HZ.out, if_pos h]
      subst hc0
      clear h
      go_wp2
      go_ret
      exact ⟨rfl, rfl⟩
theorem rTagged (key : Int) (a : Option Addr) (len cap : Nat) (zs : List Int) (w : World) (hr : IntRow w a len zs) :
    Calls Tryd.prog 32 #[.int .i64 key, .slice a len cap] w fun e w' => e = .returned (.int .i64 (mkE key zs)) ∧ w = w' := by
  obtain ⟨h1, h2, _, h4⟩ := hr
  cases hk : inB key
  · have e1 : mkE key zs = 1 := by simp [mkE, hk]
    rw [e1]
    exact rTagged_key key a len cap w hk
  · by_cases hl : 12 < len
    · have e1 : mkE key zs = 4 := by simp [mkE, hk, h1, hl]
      rw [e1]
      exact rTagged_full key a len cap w hk hl h2
    · rcases h4 with h0 | ⟨b, off, rfl, _, hc⟩
      · subst h0
        obtain rfl : zs = [] := List.eq_nil_of_length_eq_zero h1
        have e1 : mkE key [] = 0 := by simp [mkE, hk]
        rw [e1]
        exact rTagged_nil key a cap w hk
      · have e1 : mkE key zs = (if zs.all inB then 0 else 1) := by
          unfold mkE; rw [if_neg (by simp [hk]), if_neg (by omega)]
        rw [e1]
        exact rTagged_row key b off len cap zs w hk h1 (by omega) _ rfl (fun i hi => by have := hc i 0 hi (by omega); simpa using this)
end Go.Proofs.YtnfgeidiglldkaaDoor
