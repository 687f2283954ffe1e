/- The walk of BlockPlays. -/
import Derived.Test.YthfnjgiaimhbiabDoorRBlock
import Derived.Test.YthfnjgiaimhbiabDoorBlockC
import Derived.Test.YthfnjgiaimhbiabDoorErr
import Derived.Test.YthfnjgiaimhbiabDoorOpen
namespace Go.Proofs.YthfnjgiaimhbiabDoor
open Go.RowKit

theorem blkNext_bounds (n m : Int) (h0 : 0 ≤ n) (h1 : n ≤ m) (h2 : m ≤ 1000) : 0 ≤ (blkNext n m).2.2.1 ∧ (blkNext n m).2.2.1 ≤ (blkNext n m).2.2.2 ∧ (blkNext n m).2.2.2 ≤ 1000 := by
  unfold blkNext; split
  · split <;> simp only <;> omega
  · simp only; omega

set_option maxRecDepth 100000 in
set_option maxHeartbeats 1000000 in
theorem walkBlockPlays1 (w : World) (b off len cap : Nat) (zs : List Int) (hlt : b < w.heap.size) (hm : len ≤ maxLen) (hc : ∀ i, i < len → w.cell? ⟨b, off + i, none⟩ = some (.int .i64 (zs.getD i 0))) (hE : ErrT w) :
    Calls Tryd.prog 4 #[.slice (some ⟨b, off, none⟩) len cap] w fun e w' => e = .returned (.bool true) ∧ Below w.heap.size w w' := by
  unfold maxLen at hm
  have HC := hide hc
  clear hc
  go_enter Tryd.func4, Tryd.ntmps4
  go_wp2_with fail
  refine (blockNew _).mono ?_
  rintro e w1 ⟨rfl, rfl⟩
  go_wp2_with fail
  have o1 : BlkAt ((w.alloc (.cells #[.int .i64 0, .int .i64 0] 42)).alloc (.cells #[.int .i64 0, .int .i64 0] 34)) w.heap.size 0 0 := ObjAt.alloc (ObjAt.new _ _ _) _
  have o2 : RBlkAt ((w.alloc (.cells #[.int .i64 0, .int .i64 0] 42)).alloc (.cells #[.int .i64 0, .int .i64 0] 34)) (w.heap.size + 1) 0 0 := by
    have := ObjAt.new (w.alloc (.cells #[.int .i64 0, .int .i64 0] 42)) 34 [.int .i64 0, .int .i64 0]
    simpa [RBlkAt] using this
  have b0 : Below w.heap.size w ((w.alloc (.cells #[.int .i64 0, .int .i64 0] 42)).alloc (.cells #[.int .i64 0, .int .i64 0] 34)) := ((Below.refl _ _).alloc (Nat.le_refl _) _).alloc (by simp) _
  go_loopw [5] (fun i wr => ∃ (k : Nat) (n m : Int), i = .int .i64 k ∧ k ≤ len ∧ k ≤ 200 ∧ 0 ≤ n ∧ n ≤ m ∧ m ≤ 1000 ∧ BlkAt wr w.heap.size n m ∧ RBlkAt wr (w.heap.size + 1) n m ∧ Below w.heap.size w wr) (fun i _ => 200 - (intOf i).toNat)
  case atStart => exact ⟨0, 0, 0, rfl, by omega, by omega, by omega, by omega, by omega, o1, o2, b0⟩
  case round =>
    obtain ⟨k, n, m, rfl, hk, hk2, hn0, hnm, hm0, ho1, ho2, hb⟩ := hrel
    clear o1 o2 b0
    have Ho1 := hide ho1
    have Ho2 := hide ho2
    have hEr := hide (hE.below hb hE.pos)
    clear ho1 ho2
    by_cases h1 : k < len
    · by_cases h2 : k < 200
      · have hcell := cells_below hlt HC.out hb k h1
        obtain ⟨z, hz⟩ : ∃ z, z = zs.getD k 0 := ⟨_, rfl⟩
        rw [← hz] at hcell
        clear hz
        by_cases hz0 : z = 0
        · subst hz0
          go_wp2_with fail
          refine (blockCrash _ _ _ _ Ho1.out).mono ?_
          rintro e w1 ⟨rfl, ho, hk1⟩
          have ho2 := Kept.obj hk1 Ho2.out (by simp)
          have q1 := ho2.cell (i := 0) rfl
          have q2 := ho2.cell (i := 1) rfl
          have q3 := ho2.free 0
          have hb1 := bel_kept hb hk1
          have o3 : Hid (BlkAt (w1.setCell ⟨w.heap.size + 1, 0, none⟩ (.int .i64 m)) w.heap.size m m) := hide (ObjAt.setOther ho (by simp) _)
          have o4 : Hid (RBlkAt (w1.setCell ⟨w.heap.size + 1, 0, none⟩ (.int .i64 m)) (w.heap.size + 1) m m) := hide (ObjAt.set ho2 0 _)
          have hb2 : Below w.heap.size w (w1.setCell ⟨w.heap.size + 1, 0, none⟩ (.int .i64 m)) := hb1.setCell (by simp) _
          have q4 := o4.out.cell (i := 1) rfl
          clear ho ho2 hk1 Ho1 Ho2
          go_wp2_with fail
          go_quiet ((go_at_call 10; exact quiet_left (blockBound _ _ _ _ (ObjAt.drewN o3.out _))))
          go_wp2
          go_roundw
          case rel => exact ⟨k + 1, m, m, by go_num, by omega, by omega, by omega, by omega, by omega, ObjAt.drewN o3.out _, ObjAt.drewN o4.out _, bel_drewN hb2 _⟩
          case measure => simp [intOf]; omega
        · have hz1 : (z == 0) = false := beq_eq_false_iff_ne.2 hz0
          have hbd := blkNext_bounds n m hn0 hnm hm0
          have C1 := hide (fun W h => rblockNext (w.heap.size + 1) n m W h hn0 hnm hm0)
          have C2 := hide (fun W h => blockNext w.heap.size n m W h hn0 hnm hm0)
          obtain ⟨v, c, n', m', hE2⟩ : ∃ v c n' m', blkNext n m = (v, c, n', m') := ⟨_, _, _, _, rfl⟩
          rw [hE2] at hbd C1 C2
          simp only at hbd C1 C2
          obtain ⟨hbd1, hbd2, hbd3⟩ := hbd
          clear hE2 hz0
          go_wp2_with fail
          refine (C1.out _ Ho2.out).mono ?_
          rintro e w1 ⟨rfl, ho, hk1⟩
          have ho1 := Kept.obj hk1 Ho1.out (by simp)
          have hb1 : Below w.heap.size w w1 := bel_kept1 hb hk1 (by omega) hb.size
          have Ho1' := hide ho1
          have Ho2' := hide ho
          clear ho1 ho hk1 Ho1 Ho2 C1
          go_wp2_with fail
          refine (C2.out _ Ho1'.out).mono ?_
          rintro e w2 ⟨rfl, ho, hk2⟩
          have ho2 := Kept.obj hk2 Ho2'.out (by simp)
          have hb2 : Below w.heap.size w w2 := bel_kept hb1 hk2
          have o3 := hide ho
          have o4 := hide ho2
          clear ho2 ho hk2 Ho1' Ho2' C2
          go_wp2_with fail
          refine (error_any c c w2 (hE.below hb2 hE.pos)).mono ?_
          rintro e w3 ⟨rfl, hb3⟩
          have o5 := hide (ObjAt.below o3.out hb3)
          have o6 := hide (ObjAt.below o4.out hb3)
          have hb4 := hb2.trans (hb3.mono hb2.size)
          have q4 := o6.out.cell (i := 1) rfl
          clear hb3 o3 o4
          go_wp2_with fail
          go_quiet ((go_at_call 10; exact quiet_left (blockBound _ _ _ _ (ObjAt.drewN o5.out _))))
          go_wp2
          go_roundw
          case rel => exact ⟨k + 1, n', m', by go_num, by omega, by omega, hbd1, hbd2, hbd3, ObjAt.drewN o5.out _, ObjAt.drewN o6.out _, bel_drewN hb4 _⟩
          case measure => simp [intOf]; omega
      · go_wp2
        go_ret
        exact ⟨rfl, hb⟩
    · go_wp2
      go_ret
      exact ⟨rfl, hb⟩
theorem walkBlockPlays (w : World) (x : Option Addr) (len cap : Nat) (zs : List Int) (_hl : len ≤ cap) (_hc : cap ≤ maxLen) (hr : IntRow w x len zs) (hE : ErrT w) :
    Calls Tryd.prog 4 #[.slice x len cap] w fun e w' => e = .returned (.bool true) ∧ Below w.heap.size w w' := by
  rcases hr.split with rfl | ⟨b, off, rfl, hlt, hm, _, hc⟩
  · clear hr
    go_enter Tryd.func4, Tryd.ntmps4
    go_wp2_with fail
    refine (blockNew _).mono ?_
    rintro e w1 ⟨rfl, rfl⟩
    go_wp2_with fail
    go_rounds 1
    go_ret
    exact ⟨rfl, by go_grown⟩
  · exact walkBlockPlays1 w b off len cap zs hlt hm hc hE
end Go.Proofs.YthfnjgiaimhbiabDoor
