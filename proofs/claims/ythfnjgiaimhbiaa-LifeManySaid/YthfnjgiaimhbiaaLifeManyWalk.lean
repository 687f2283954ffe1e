/- The walk of LifeMany. -/
import Derived.Test.YthfnjgiaimhbiaaLife
namespace Go.Proofs.Ythfnjgiaimhbiaa
open Go.RowKit

theorem lm_next (b k : Nat) (w : World) (h : LifeAt w b 1 (min (k : Int) 30)) (hk : k < 40) :
    Calls Try.prog 20 #[.pointer (some ⟨b, 0, none⟩)] w fun e w' => ((k < 30 ∧ e = .returned (.tuple #[.int .i64 1, .int .i64 (k : Int), .nilIface])) ∨ (30 ≤ k ∧ e = .returned (.tuple #[.int .i64 0, .int .i64 0, .iface 58 (.int .i64 4)]))) ∧ LifeAt w' b 1 (min ((k + 1 : Nat) : Int) 30) ∧ Kept [b] w w' := by
  by_cases e : k < 30
  · have e1 : min (k : Int) 30 = k := by omega
    have e2 : min ((k + 1 : Nat) : Int) 30 = (k : Int) + 1 := by omega
    rw [e1] at h
    rw [e2]
    exact (lifeNext_ok b 1 k w h (by omega) (by omega) (by omega) (by omega)).mono fun _ _ ⟨h1, h2⟩ => ⟨.inl ⟨e, h1⟩, h2⟩
  · have e1 : min (k : Int) 30 = 30 := by omega
    have e2 : min ((k + 1 : Nat) : Int) 30 = 30 := by omega
    rw [e1] at h
    rw [e2]
    exact (lifeNext_full b 1 w h (by omega)).mono fun _ _ ⟨h1, h2⟩ => ⟨.inr ⟨by omega, h1⟩, h2⟩

theorem lm_a {k : Nat} {e x y : Ending} (h : (k < 30 ∧ e = x) ∨ (30 ≤ k ∧ e = y)) (hk : k < 30) : e = x := by
  rcases h with h | h
  · exact h.2
  · omega
theorem lm_b {k : Nat} {e x y : Ending} (h : (k < 30 ∧ e = x) ∨ (30 ≤ k ∧ e = y)) (hk : ¬ k < 30) : e = y := by
  rcases h with h | h
  · omega
  · exact h.2

theorem walkLifeMany (w : World) (a0 : Int) (_w0 : (Lit.int .i64 a0).wf = true) :
    Calls Try.prog 4 #[.int .i64 a0] w fun e w' => e = .returned (.bool true) ∧ Below w.heap.size w w' := by
  have hw0 : LifeAt (w.alloc (.cells #[.int .i64 0, .int .i64 0] 67)) w.heap.size 0 0 := ObjAt.new _ _ _
  have hb0 : Below w.heap.size w (w.alloc (.cells #[.int .i64 0, .int .i64 0] 67)) := (Below.refl _ _).alloc (Nat.le_refl _) _
  have Hw0 := hide hw0
  clear hw0
  go_enter Try.func4, Try.ntmps4
  go_wp2_with (first
    | (go_at_call 18; refine (lifeNew _).mono ?_; rintro e w' ⟨rfl, rfl⟩)
    | (go_at_call 19; refine (lifeStart_ok w.heap.size 0 0 _ Hw0.out (by omega) (by omega)).mono ?_; rintro e w1 ⟨rfl, ho1, hk1⟩; have Ho1 := hide ho1; have Hk1 := hide (bel_kept hb0 hk1); clear ho1 hk1))
  have hob := And.intro (show LifeAt w1 w.heap.size 1 0 from Ho1.out) Hk1.out
  clear Ho1 Hk1 Hw0
  go_loopw [6] (fun i wr => ∃ k : Nat, i = .int .i64 k ∧ k ≤ 40 ∧ LifeAt wr w.heap.size 1 (min (k : Int) 30) ∧ Below w.heap.size w wr) (fun i _ => 40 - (intOf i).toNat)
  case atStart => exact ⟨0, rfl, by omega, hob.1, hob.2⟩
  case round =>
    obtain ⟨k, rfl, hk, ho, hb⟩ := hrel
    clear hob hb0
    have Ho := hide ho
    clear ho
    by_cases h1 : (k : Int) < a0
    · by_cases h2 : k < 40
      · by_cases h3 : k < 30
        · go_wp2_with (go_at_call 20; refine (lm_next w.heap.size k _ Ho.out h2).mono ?_; rintro e w2 ⟨hh, ho1, hk1⟩; obtain rfl := lm_a hh h3; have Ho2 := hide ho1; have Hk2 := hide (bel_kept hb hk1); clear ho1 hk1 hh)
          go_roundw
          case rel => exact ⟨k + 1, by go_num, by omega, Ho2.out, Hk2.out⟩
          case measure => simp [intOf]; omega
        · go_wp2_with (go_at_call 20; refine (lm_next w.heap.size k _ Ho.out h2).mono ?_; rintro e w2 ⟨hh, ho1, hk1⟩; obtain rfl := lm_b hh h3; have Ho2 := hide ho1; have Hk2 := hide (bel_kept hb hk1); clear ho1 hk1 hh)
          go_roundw
          case rel => exact ⟨k + 1, by go_num, by omega, Ho2.out, Hk2.out⟩
          case measure => simp [intOf]; omega
      · go_wp2
        go_ret
        exact ⟨rfl, hb⟩
    · go_wp2
      go_ret
      exact ⟨rfl, hb⟩
end Go.Proofs.Ythfnjgiaimhbiaa
