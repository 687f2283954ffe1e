/- The walk of BlockNever. -/
import Derived.Test.YthfnjgiaimhbiabDoorBlockB
import Derived.Test.YthfnjgiaimhbiabDoorBlockC
import Derived.Test.YthfnjgiaimhbiabDoorErr
import Derived.Test.YthfnjgiaimhbiabDoorOpen
namespace Go.Proofs.YthfnjgiaimhbiabDoor
open Go.RowKit

/-- what holds of the next number, the bound, the last one told, and the crashes since then -/
def bnJ (k : Nat) (n m la c : Int) : Prop := 0 ≤ n ∧ n ≤ m ∧ m ≤ 1000 ∧ m % 8 = 0 ∧ m ≤ n + 7 ∧ la + 1 ≤ n ∧ n ≤ la + 8 ∧ 0 ≤ c ∧ c ≤ k ∧ (c = 0 → n = la + 1) ∧ (0 < c → n = m)

set_option maxRecDepth 100000 in
set_option maxHeartbeats 4000000 in
theorem walkBlockNever1 (w : World) (b off len cap : Nat) (zs : List Int) (hlt : b < w.heap.size) (hm : len ≤ maxLen) (hc : ∀ i, i < len → w.cell? ⟨b, off + i, none⟩ = some (.int .i64 (zs.getD i 0))) (hE : ErrT w) :
    Calls Tryd.prog 3 #[.slice (some ⟨b, off, none⟩) len cap] w fun e w' => e = .returned (.bool true) ∧ Below w.heap.size w w' := by
  unfold maxLen at hm
  have HC := hide hc
  clear hc
  have N0 : ∀ W : World, BlkAt (W.alloc (.cells #[.int .i64 0, .int .i64 0] 42)) W.heap.size 0 0 := fun W => ObjAt.new _ _ _
  have HN := hide N0
  clear N0
  go_enter Tryd.func3, Tryd.ntmps3
  go_wp2_with fail
  refine (blockNew _).mono ?_
  rintro e w1 ⟨rfl, rfl⟩
  go_wp2_with fail
  refine (blockNext_new _ 0 _ (HN.out _) (by omega) (by omega)).mono ?_
  rintro e w1 ⟨rfl, ho1, hk1⟩
  have hb1 : Below w.heap.size w w1 := bel_kept ((Below.refl _ _).alloc (Nat.le_refl _) _) hk1
  go_wp2_with fail
  refine (blockCrash _ _ _ _ ho1).mono ?_
  rintro e w2 ⟨rfl, ho2, hk2⟩
  have hb2 : Below w.heap.size w w2 := bel_kept hb1 hk2
  go_wp2_with fail
  refine (blockNext_new _ _ _ ho2 (by omega) (by omega)).mono ?_
  rintro e w3 ⟨rfl, ho3, hk3⟩
  have hb3 : Below w.heap.size w w3 := bel_kept hb2 hk3
  clear ho1 ho2 ho3 hk1 hk2 hk3
  go_wp2_with fail
  refine (blockNew _).mono ?_
  rintro e w4 ⟨rfl, rfl⟩
  go_wp2_with fail
  have hsz : w.heap.size ≤ w3.heap.size := hb3.size
  go_loopw [9, 10, 11] (fun l cr i wr => ∃ (k : Nat) (n m la c : Int), l = .int .i64 la ∧ cr = .int .i64 c ∧ i = .int .i64 k ∧ k ≤ len ∧ k ≤ 200 ∧ bnJ k n m la c ∧ BlkAt wr w3.heap.size n m ∧ Below w.heap.size w wr) (fun _ _ i _ => 200 - (intOf i).toNat)
  case atStart => exact ⟨0, 0, 0, -1, 0, rfl, rfl, rfl, by omega, by omega, by unfold bnJ; omega, HN.out _, hb3.alloc hsz _⟩
  case round =>
    obtain ⟨k, n, m, la, c, rfl, rfl, rfl, hk, hk2, hJ, ho, hb⟩ := hrel
    unfold bnJ at hJ
    obtain ⟨j0, j1, j2, j3, j4, j5, j6, j7, j8, j9, j10⟩ := hJ
    have J3 := hide j3
    clear j3
    have Ho := hide ho
    have hEr := hide (hE.below hb hE.pos)
    clear ho
    by_cases h1 : k < len
    · by_cases h2 : k < 200
      · have hcell := cells_below hlt HC.out hb k h1
        obtain ⟨z, hz⟩ : ∃ z, z = zs.getD k 0 := ⟨_, rfl⟩
        rw [← hz] at hcell
        clear hz
        by_cases hz0 : z = 0
        · subst hz0
          go_wp2_with fail
          refine (blockCrash _ _ _ _ Ho.out).mono ?_
          rintro e w4 ⟨rfl, ho1, hk1⟩
          have hb4 : Below w.heap.size w w4 := bel_kept1 hb hk1 hsz hb.size
          clear hk1
          have Ho1 := hide ho1
          clear ho1
          go_wp2_with fail
          go_roundw
          case rel => exact ⟨k + 1, m, m, la, c + 1, rfl, rfl, by go_num, by omega, by omega, by unfold bnJ; have := J3.out; omega, Ho1.out, hb4⟩
          case measure => simp [intOf]; omega
        · have hz1 : (z == 0) = false := beq_eq_false_iff_ne.2 hz0
          clear hz0
          by_cases hnm : n = m
          · subst hnm
            by_cases hfull : 1000 < n + 8
            · have e1 : n = 1000 := by have := J3.out; omega
              have C4 := hide (blockNext_full _ n wr Ho.out j0 j2 hfull)
              subst e1
              have hc1 : (1000 : Int) - 8 ≤ la := by omega
              go_wp2_with fail
              refine (C4.out).mono ?_
              rintro e w4 ⟨rfl, ho1, hk1⟩
              have hb4 : Below w.heap.size w w4 := bel_kept1 hb hk1 hsz hb.size
              clear hk1
              have Ho1 := hide ho1
              clear ho1
              go_wp2_with fail
              refine (error_any 4 4 w4 (hE.below hb4 hE.pos)).mono ?_
              rintro e w5 ⟨rfl, hb5⟩
              have hb6 := hb4.trans (hb5.mono hb4.size)
              have Ho2 := hide (ObjAt.below Ho1.out hb5)
              clear hb5 Ho1
              go_wp2_with fail
              refine (blockBound _ _ _ _ Ho2.out).mono ?_
              rintro e w6 ⟨rfl, rfl⟩
              go_wp2
              go_ret
              exact ⟨rfl, hb6⟩
            · have C4 := hide (blockNext_new _ n wr Ho.out j0 (by omega))
              by_cases hc0 : c = 0
              · have hl := j9 hc0
                subst hc0
                clear j9 j10
                have hl1 : n ≤ la + 1 := by omega
                have t1 : (n != la + 1) = false := by rw [hl]; simp
                clear hl
                go_wp2_with fail
                refine (C4.out).mono ?_
                rintro e w4 ⟨rfl, ho1, hk1⟩
                have hb4 : Below w.heap.size w w4 := bel_kept1 hb hk1 hsz hb.size
                clear hk1
                have Ho1 := hide ho1
                clear ho1
                go_wp2_with fail
                refine (blockBound _ _ _ _ Ho1.out).mono ?_
                rintro e w6 ⟨rfl, rfl⟩
                go_wp2
                go_roundw
                case rel => exact ⟨k + 1, n + 1, n + 8, n, 0, rfl, rfl, by go_num, by omega, by omega, by unfold bnJ; have := J3.out; omega, Ho1.out, hb4⟩
                case measure => simp [intOf]; omega
              · clear j9
                have hc1 : 0 < c := by omega
                have t1 : (c == 0) = false := beq_eq_false_iff_ne.2 hc0
                clear hc0 j10
                go_wp2_with fail
                refine (C4.out).mono ?_
                rintro e w4 ⟨rfl, ho1, hk1⟩
                have hb4 : Below w.heap.size w w4 := bel_kept1 hb hk1 hsz hb.size
                clear hk1
                have Ho1 := hide ho1
                clear ho1
                go_wp2_with fail
                refine (blockBound _ _ _ _ Ho1.out).mono ?_
                rintro e w6 ⟨rfl, rfl⟩
                go_wp2
                go_roundw
                case rel => exact ⟨k + 1, n + 1, n + 8, n, 0, rfl, rfl, by go_num, by omega, by omega, by unfold bnJ; have := J3.out; omega, Ho1.out, hb4⟩
                case measure => simp [intOf]; omega
          · have C4 := hide (blockNext_in _ n m wr Ho.out j0 (by omega) j2)
            have hnm2 : n < m := by omega
            have hc0 : c = 0 := by
              rcases Int.lt_or_eq_of_le j7 with h | h
              · exact absurd (j10 h) hnm
              · exact h.symm
            have hl := j9 hc0
            subst hc0
            clear j9 j10 hnm
            have hl1 : n ≤ la + 1 := by omega
            have t1 : (n != la + 1) = false := by rw [hl]; simp
            clear hl
            go_wp2_with fail
            refine (C4.out).mono ?_
            rintro e w4 ⟨rfl, ho1, hk1⟩
            have hb4 : Below w.heap.size w w4 := bel_kept1 hb hk1 hsz hb.size
            clear hk1
            have Ho1 := hide ho1
            clear ho1
            go_wp2_with fail
            refine (blockBound _ _ _ _ Ho1.out).mono ?_
            rintro e w6 ⟨rfl, rfl⟩
            go_wp2
            go_roundw
            case rel => exact ⟨k + 1, n + 1, m, n, 0, rfl, rfl, by go_num, by omega, by omega, by unfold bnJ; have := J3.out; omega, Ho1.out, hb4⟩
            case measure => simp [intOf]; omega
      · go_wp2
        go_ret
        exact ⟨rfl, hb⟩
    · go_wp2
      go_ret
      exact ⟨rfl, hb⟩

theorem walkBlockNever (w : World) (x : Option Addr) (len cap : Nat) (zs : List Int) (_hl : len ≤ cap) (_hc : cap ≤ maxLen) (hr : IntRow w x len zs) (hE : ErrT w) :
    Calls Tryd.prog 3 #[.slice x len cap] w fun e w' => e = .returned (.bool true) ∧ Below w.heap.size w w' := by
  rcases hr.split with rfl | ⟨b, off, rfl, hlt, hm, _, hc⟩
  · clear hr
    have N0 : ∀ W : World, BlkAt (W.alloc (.cells #[.int .i64 0, .int .i64 0] 42)) W.heap.size 0 0 := fun W => ObjAt.new _ _ _
    have HN := hide N0
    clear N0
    go_enter Tryd.func3, Tryd.ntmps3
    go_wp2_with fail
    refine (blockNew _).mono ?_
    rintro e w1 ⟨rfl, rfl⟩
    go_wp2_with fail
    refine (blockNext_new _ 0 _ (HN.out _) (by omega) (by omega)).mono ?_
    rintro e w1 ⟨rfl, ho1, hk1⟩
    have hb1 : Below w.heap.size w w1 := bel_kept ((Below.refl _ _).alloc (Nat.le_refl _) _) hk1
    go_wp2_with fail
    refine (blockCrash _ _ _ _ ho1).mono ?_
    rintro e w2 ⟨rfl, ho2, hk2⟩
    have hb2 : Below w.heap.size w w2 := bel_kept hb1 hk2
    go_wp2_with fail
    refine (blockNext_new _ _ _ ho2 (by omega) (by omega)).mono ?_
    rintro e w3 ⟨rfl, ho3, hk3⟩
    have hb3 : Below w.heap.size w w3 := bel_kept hb2 hk3
    clear ho1 ho2 ho3 hk1 hk2 hk3
    go_wp2_with fail
    refine (blockNew _).mono ?_
    rintro e w4 ⟨rfl, rfl⟩
    go_wp2_with fail
    go_rounds 1
    go_ret
    exact ⟨rfl, hb3.alloc hb3.size _⟩
  · exact walkBlockNever1 w b off len cap zs hlt hm hc hE
end Go.Proofs.YthfnjgiaimhbiabDoor
