/- The walk of LifeUnlike. -/
import Derived.Test.YthfnjgiaimhbiabDoorLife
import Derived.Test.YthfnjgiaimhbiabDoorErr
import Derived.Test.YthfnjgiaimhbiabDoorOpen
namespace Go.Proofs.YthfnjgiaimhbiabDoor
open Go.RowKit

/-- what holds of the life, its next number, and the last one told -/
def luJ (n m la : Int) : Prop := 0 ≤ n ∧ n ≤ 100 ∧ 0 ≤ m ∧ m ≤ 30 ∧ -1 ≤ la ∧ la < n * 30 + m

set_option maxRecDepth 100000 in
set_option maxHeartbeats 4000000 in
theorem walkLifeUnlike1 (w : World) (b off len cap : Nat) (zs : List Int) (hlt : b < w.heap.size) (hm : len ≤ maxLen) (hc : ∀ i, i < len → w.cell? ⟨b, off + i, none⟩ = some (.int .i64 (zs.getD i 0))) (hE : ErrT w) :
    Calls Tryd.prog 5 #[.slice (some ⟨b, off, none⟩) len cap] w fun e w' => e = .returned (.bool true) ∧ Below w.heap.size w w' := by
  unfold maxLen at hm
  have HC := hide hc
  clear hc
  have N0 : ∀ W : World, LifeAt (W.alloc (.cells #[.int .i64 0, .int .i64 0] 46)) W.heap.size 0 0 := fun W => ObjAt.new _ _ _
  have HN := hide N0
  clear N0
  go_enter Tryd.func5, Tryd.ntmps5
  go_wp2_with fail
  refine (lifeNew _).mono ?_
  rintro e w1 ⟨rfl, rfl⟩
  go_wp2_with fail
  refine (lifeNext_none _ 0 _ (HN.out _)).mono ?_
  rintro e w1 ⟨rfl, ho1, hk1⟩
  have hb1 : Below w.heap.size w w1 := bel_kept ((Below.refl _ _).alloc (Nat.le_refl _) _) hk1
  go_wp2_with fail
  refine (lifeStart_ok _ _ _ _ ho1 (by omega) (by omega)).mono ?_
  rintro e w2 ⟨rfl, ho2, hk2⟩
  have hb2 : Below w.heap.size w w2 := bel_kept hb1 hk2
  go_wp2_with fail
  refine (lifeNext_ok _ _ _ _ ho2 (by omega) (by omega) (by omega) (by omega)).mono ?_
  rintro e w3 ⟨rfl, ho3, hk3⟩
  have hb3 : Below w.heap.size w w3 := bel_kept hb2 hk3
  clear ho1 ho2 ho3 hk1 hk2 hk3
  go_wp2_with fail
  refine (error_any 6 6 w3 (hE.below hb3 hE.pos)).mono ?_
  rintro e w4 ⟨rfl, hb4'⟩
  have hb4 := hb3.trans (hb4'.mono hb3.size)
  clear hb4'
  go_wp2_with fail
  refine (lifeNew _).mono ?_
  rintro e w5 ⟨rfl, rfl⟩
  go_wp2_with fail
  have hsz : w.heap.size ≤ w4.heap.size := hb4.size
  go_loopw [13, 14] (fun l i wr => ∃ (k : Nat) (n m la : Int), l = .int .i64 la ∧ i = .int .i64 k ∧ k ≤ len ∧ k ≤ 100 ∧ luJ n m la ∧ LifeAt wr w4.heap.size n m ∧ Below w.heap.size w wr) (fun _ i _ => 100 - (intOf i).toNat)
  case atStart => exact ⟨0, 0, 0, -1, rfl, rfl, by omega, by omega, by unfold luJ; omega, HN.out _, hb4.alloc hsz _⟩
  case round =>
    obtain ⟨k, n, m, la, rfl, rfl, hk, hk2, hJ, ho, hb⟩ := hrel
    unfold luJ at hJ
    obtain ⟨j0, j1, j2, j3, j4, j5⟩ := hJ
    have Ho := hide ho
    clear ho
    by_cases h1 : k < len
    · by_cases h2 : k < 100
      · have hcell := cells_below hlt HC.out hb k h1
        obtain ⟨z, hz⟩ : ∃ z, z = zs.getD k 0 := ⟨_, rfl⟩
        rw [← hz] at hcell
        clear hz
        by_cases hz0 : z = 0
        · subst hz0
          have C := hide (lifeStart _ _ _ _ Ho.out j0 j1)
          obtain ⟨v, c, n', m', hE2⟩ : ∃ v c n' m', lifeS n m = (v, c, n', m') := ⟨_, _, _, _, rfl⟩
          have hj : luJ n' m' la := by
            unfold lifeS at hE2
            unfold luJ
            split at hE2 <;> simp only [Prod.mk.injEq] at hE2 <;> omega
          rw [hE2] at C
          simp only at C
          clear hE2
          go_wp2_with fail
          refine (C.out).mono ?_
          rintro e w5 ⟨rfl, ho1, hk1⟩
          have hb5 : Below w.heap.size w w5 := bel_kept1 hb hk1 hsz hb.size
          clear hk1
          have Ho1 := hide ho1
          clear ho1
          go_wp2_with fail
          go_roundw
          case rel => exact ⟨k + 1, n', m', la, rfl, by go_num, by omega, by omega, hj, Ho1.out, hb5⟩
          case measure => simp [intOf]; omega
        · have hz1 : (z == 0) = false := beq_eq_false_iff_ne.2 hz0
          clear hz0
          by_cases hok : 0 < n ∧ m < 30
          · obtain ⟨hn, hm30⟩ := hok
            have C := hide (lifeNext_ok _ _ _ _ Ho.out hn j1 j2 hm30)
            have hx : 0 ≤ n * 30 := by omega
            go_wp2_with fail
            refine (C.out).mono ?_
            rintro e w5 ⟨rfl, ho1, hk1⟩
            have hb5 : Below w.heap.size w w5 := bel_kept1 hb hk1 hsz hb.size
            clear hk1
            have Ho1 := hide ho1
            clear ho1
            go_wp2_with fail
            go_roundw
            case rel => exact ⟨k + 1, n, m + 1, n * 30 + m, by go_num, by go_num, by omega, by omega, by unfold luJ; omega, Ho1.out, hb5⟩
            case measure => simp [intOf]; omega
          · have C : Hid (∃ c : Int, c ≠ 0 ∧ Calls Tryd.prog 13 #[.pointer (some ⟨w4.heap.size, 0, none⟩)] wr fun e w' => e = .returned (.tuple #[.int .i64 0, .int .i64 0, .iface 43 (.int .i64 c)]) ∧ LifeAt w' w4.heap.size n m ∧ Kept [w4.heap.size] wr w') := by
              by_cases hn : n = 0
              · subst hn; exact ⟨6, by omega, lifeNext_none _ m _ Ho.out⟩
              · have e30 : m = 30 := by omega
                subst e30; exact ⟨4, by omega, lifeNext_full _ n _ Ho.out (by omega)⟩
            obtain ⟨c, _, C1⟩ := C.out
            have C2 := hide C1
            clear C1 C hok
            go_wp2_with fail
            refine (C2.out).mono ?_
            rintro e w5 ⟨rfl, ho1, hk1⟩
            have hb5 : Below w.heap.size w w5 := bel_kept1 hb hk1 hsz hb.size
            clear hk1
            have Ho1 := hide ho1
            clear ho1
            go_wp2_with fail
            go_roundw
            case rel => exact ⟨k + 1, n, m, la, rfl, by go_num, by omega, by omega, by unfold luJ; omega, Ho1.out, hb5⟩
            case measure => simp [intOf]; omega
      · go_wp2
        go_ret
        exact ⟨rfl, hb⟩
    · go_wp2
      go_ret
      exact ⟨rfl, hb⟩

set_option maxRecDepth 100000 in
theorem walkLifeUnlike (w : World) (x : Option Addr) (len cap : Nat) (zs : List Int) (_hl : len ≤ cap) (_hc : cap ≤ maxLen) (hr : IntRow w x len zs) (hE : ErrT w) :
    Calls Tryd.prog 5 #[.slice x len cap] w fun e w' => e = .returned (.bool true) ∧ Below w.heap.size w w' := by
  rcases hr.split with rfl | ⟨b, off, rfl, hlt, hm, _, hc⟩
  · clear hr
    have N0 : ∀ W : World, LifeAt (W.alloc (.cells #[.int .i64 0, .int .i64 0] 46)) W.heap.size 0 0 := fun W => ObjAt.new _ _ _
    have HN := hide N0
    clear N0
    go_enter Tryd.func5, Tryd.ntmps5
    go_wp2_with fail
    refine (lifeNew _).mono ?_
    rintro e w1 ⟨rfl, rfl⟩
    go_wp2_with fail
    refine (lifeNext_none _ 0 _ (HN.out _)).mono ?_
    rintro e w1 ⟨rfl, ho1, hk1⟩
    have hb1 : Below w.heap.size w w1 := bel_kept ((Below.refl _ _).alloc (Nat.le_refl _) _) hk1
    go_wp2_with fail
    refine (lifeStart_ok _ _ _ _ ho1 (by omega) (by omega)).mono ?_
    rintro e w2 ⟨rfl, ho2, hk2⟩
    have hb2 : Below w.heap.size w w2 := bel_kept hb1 hk2
    go_wp2_with fail
    refine (lifeNext_ok _ _ _ _ ho2 (by omega) (by omega) (by omega) (by omega)).mono ?_
    rintro e w3 ⟨rfl, ho3, hk3⟩
    have hb3 : Below w.heap.size w w3 := bel_kept hb2 hk3
    clear ho1 ho2 ho3 hk1 hk2 hk3
    go_wp2_with fail
    refine (error_any 6 6 w3 (hE.below hb3 hE.pos)).mono ?_
    rintro e w4 ⟨rfl, hb4'⟩
    have hb4 := hb3.trans (hb4'.mono hb3.size)
    clear hb4'
    go_wp2_with fail
    refine (lifeNew _).mono ?_
    rintro e w5 ⟨rfl, rfl⟩
    go_wp2_with fail
    go_rounds 1
    go_ret
    exact ⟨rfl, hb4.alloc hb4.size _⟩
  · exact walkLifeUnlike1 w b off len cap zs hlt hm hc hE
end Go.Proofs.YthfnjgiaimhbiabDoor
