/- The walk of BlockEight. -/
import Derived.Test.YthfnjgiaimhbiaaBlock
namespace Go.Proofs.Ythfnjgiaimhbiaa
open Go.RowKit

theorem be_next (b k : Nat) (w : World) (h : BlkAt w b (k : Int) (((k : Int) + 7) / 8 * 8)) (hk : k < 60) :
    Calls Try.prog 16 #[.pointer (some ⟨b, 0, none⟩)] w fun e w' => e = .returned (.tuple #[.int .i64 (k : Int), .nilIface]) ∧ BlkAt w' b ((k + 1 : Nat) : Int) ((((k + 1 : Nat) : Int) + 7) / 8 * 8) ∧ Kept [b] w w' := by
  have e1 : ((k + 1 : Nat) : Int) = (k : Int) + 1 := by omega
  by_cases e : (k : Int) = ((k : Int) + 7) / 8 * 8
  · rw [← e] at h
    have e2 : (((k + 1 : Nat) : Int) + 7) / 8 * 8 = (k : Int) + 8 := by omega
    rw [e2, e1]
    exact blockNext_new b k w h (by omega) (by omega)
  · have e2 : (((k + 1 : Nat) : Int) + 7) / 8 * 8 = ((k : Int) + 7) / 8 * 8 := by omega
    rw [e2, e1]
    exact blockNext_in b k _ w h (by omega) (by omega) (by omega)

theorem walkBlockEight (w : World) (a0 : Int) (_w0 : (Lit.int .i64 a0).wf = true) :
    Calls Try.prog 3 #[.int .i64 a0] w fun e w' => e = .returned (.bool true) ∧ Below w.heap.size w w' := by
  have hw0 : BlkAt (w.alloc (.cells #[.int .i64 0, .int .i64 0] 65)) w.heap.size 0 0 := ObjAt.new _ _ _
  have hb0 : Below w.heap.size w (w.alloc (.cells #[.int .i64 0, .int .i64 0] 65)) := (Below.refl _ _).alloc (Nat.le_refl _) _
  go_enter Try.func3, Try.ntmps3
  go_wp2_with (go_at_call 15; refine (blockNew _).mono ?_; rintro e w' ⟨rfl, rfl⟩)
  go_loopw [4] (fun i wr => ∃ k : Nat, i = .int .i64 k ∧ k ≤ 60 ∧ BlkAt wr w.heap.size k (((k : Int) + 7) / 8 * 8) ∧ Below w.heap.size w wr) (fun i _ => 60 - (intOf i).toNat)
  case atStart => exact ⟨0, rfl, by omega, hw0, hb0⟩
  case round =>
    obtain ⟨k, rfl, hk, ho, hb⟩ := hrel
    clear hw0 hb0
    have Ho := hide ho
    clear ho
    by_cases h1 : (k : Int) < a0
    · by_cases h2 : k < 60
      · go_wp2_with (first
          | (go_at_call 16; refine (be_next w.heap.size k _ Ho.out h2).mono ?_; rintro e w1 ⟨rfl, ho1, hk1⟩; have Ho1 := hide ho1; have Hk1 := hide hk1; clear ho1 hk1)
          | (go_at_call 17; refine (blockBound w.heap.size _ _ _ Ho1.out).mono ?_; rintro e w2 ⟨rfl, rfl⟩))
        go_roundw
        case rel => exact ⟨k + 1, by go_num, by omega, Ho1.out, bel_kept hb Hk1.out⟩
        case measure => simp [intOf]; omega
      · go_wp2
        go_ret
        exact ⟨rfl, hb⟩
    · go_wp2
      go_ret
      exact ⟨rfl, hb⟩
end Go.Proofs.Ythfnjgiaimhbiaa
