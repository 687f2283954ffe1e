/- The walk of LifePlays. -/
import Derived.Test.YtnfgeidiglldkaaDoorLifeNow
import Derived.Test.YtnfgeidiglldkaaDoorErr
import Derived.Test.YtnfgeidiglldkaaDoorOpen
namespace Go.Proofs.YtnfgeidiglldkaaDoor
open Go.RowKit

set_option maxRecDepth 100000 in
set_option maxHeartbeats 4000000 in
theorem walkLifePlays1 (w : World) (b off len cap : Nat) (zs : List Int) (hlt : b < w.heap.size) (hm : len ≤ maxLen) (hc : ∀ i, i < len → w.cell? ⟨b, off + i, none⟩ = some (.int .i64 (zs.getD i 0))) (hE : ErrT w) :
    Calls Tryd.prog 3 #[.slice (some ⟨b, off, none⟩) len cap] w fun e w' => e = .returned (.bool true) ∧ Below w.heap.size w w' := by
  unfold maxLen at hm
  have HC := hide hc
  clear hc
  have N0 : ∀ W : World, LifeAt (W.alloc (.cells #[.int .i64 0, .int .i64 0] 67)) W.heap.size 0 0 := fun W => ObjAt.new _ _ _
  have HN := hide N0
  clear N0
  go_enter Tryd.func3, Tryd.ntmps3
  go_wp2_with fail
  refine (lifeNew _).mono ?_
  rintro e w5 ⟨rfl, rfl⟩
  go_wp2_with fail
  go_loopw [4, 5, 6] (fun nw nx i wr => ∃ (k : Nat) (n m : Int), nw = .int .i64 n ∧ nx = .int .i64 m ∧ i = .int .i64 k ∧ k ≤ len ∧ k ≤ 150 ∧ 0 ≤ n ∧ n ≤ 100 ∧ 0 ≤ m ∧ m ≤ 30 ∧ LifeAt wr w.heap.size n m ∧ Below w.heap.size w wr) (fun _ _ i _ => 150 - (intOf i).toNat)
  case atStart => exact ⟨0, 0, 0, rfl, rfl, rfl, by omega, by omega, by omega, by omega, by omega, by omega, HN.out _, (Below.refl _ _).alloc (Nat.le_refl _) _⟩
  case round =>
    obtain ⟨k, n, m, rfl, rfl, rfl, hk, hk2, j0, j1, j2, j3, ho, hb⟩ := hrel
    have Ho := hide ho
    clear ho
    by_cases h1 : k < len
    · by_cases h2 : k < 150
      · have hcell := cells_below hlt HC.out hb k h1
        obtain ⟨z, hz⟩ : ∃ z, z = zs.getD k 0 := ⟨_, rfl⟩
        rw [← hz] at hcell
        clear hz
        by_cases hz0 : z = 0
        · subst hz0
          by_cases hn : n = 100
          · subst hn
            have C := hide (lifeStart_full _ m _ Ho.out)
            go_wp2_with fail
            refine (C.out).mono ?_
            rintro e w5 ⟨rfl, ho1, hk1⟩
            have hb5 : Below w.heap.size w w5 := bel_kept1 hb hk1 (Nat.le_refl _) hb.size
            clear hk1
            have Ho1 := hide ho1
            clear ho1
            go_wp2_with fail
            refine (error_any 4 4 w5 (hE.below hb5 hE.pos)).mono ?_
            rintro e w6 ⟨rfl, hb6⟩
            have Ho2 := hide (ObjAt.below Ho1.out hb6)
            have hb7 := hb5.trans (hb6.mono hb5.size)
            clear hb6 Ho1
            go_wp2_with fail
            refine (lifeNow _ _ _ _ Ho2.out).mono ?_
            rintro e w7 ⟨rfl, rfl⟩
            go_wp2
            go_roundw
            case rel => exact ⟨k + 1, 100, m, rfl, rfl, by go_num, by omega, by omega, by omega, by omega, by omega, by omega, Ho2.out, hb7⟩
            case measure => simp [intOf]; omega
          · have hn1 : n < 100 := by omega
            have C := hide (lifeStart_ok _ _ m _ Ho.out j0 hn1)
            clear hn
            go_wp2_with fail
            refine (C.out).mono ?_
            rintro e w5 ⟨rfl, ho1, hk1⟩
            have hb5 : Below w.heap.size w w5 := bel_kept1 hb hk1 (Nat.le_refl _) hb.size
            clear hk1
            have Ho1 := hide ho1
            clear ho1
            go_wp2_with fail
            refine (error_any 0 0 w5 (hE.below hb5 hE.pos)).mono ?_
            rintro e w6 ⟨rfl, hb6⟩
            have Ho2 := hide (ObjAt.below Ho1.out hb6)
            have hb7 := hb5.trans (hb6.mono hb5.size)
            clear hb6 Ho1
            go_wp2_with fail
            refine (lifeNow _ _ _ _ Ho2.out).mono ?_
            rintro e w7 ⟨rfl, rfl⟩
            go_wp2
            go_roundw
            case rel => exact ⟨k + 1, n + 1, 0, rfl, rfl, by go_num, by omega, by omega, by omega, by omega, by omega, by omega, Ho2.out, hb7⟩
            case measure => simp [intOf]; omega
        · have hz1 : (z == 0) = false := beq_eq_false_iff_ne.2 hz0
          clear hz0
          by_cases hn : n = 0
          · subst hn
            have C := hide (lifeNext_none _ m _ Ho.out)
            go_wp2_with fail
            refine (C.out).mono ?_
            rintro e w5 ⟨rfl, ho1, hk1⟩
            have hb5 : Below w.heap.size w w5 := bel_kept1 hb hk1 (Nat.le_refl _) hb.size
            clear hk1
            have Ho1 := hide ho1
            clear ho1
            go_wp2_with fail
            refine (error_any 6 6 w5 (hE.below hb5 hE.pos)).mono ?_
            rintro e w6 ⟨rfl, hb6⟩
            have Ho2 := hide (ObjAt.below Ho1.out hb6)
            have hb7 := hb5.trans (hb6.mono hb5.size)
            clear hb6 Ho1
            go_wp2_with fail
            refine (lifeNow _ _ _ _ Ho2.out).mono ?_
            rintro e w7 ⟨rfl, rfl⟩
            go_wp2
            go_roundw
            case rel => exact ⟨k + 1, 0, m, rfl, rfl, by go_num, by omega, by omega, by omega, by omega, by omega, by omega, Ho2.out, hb7⟩
            case measure => simp [intOf]; omega
          · have hn1 : 0 < n := by omega
            have hn2 : (n == 0) = false := beq_eq_false_iff_ne.2 hn
            clear hn
            by_cases hm30 : m = 30
            · subst hm30
              have C := hide (lifeNext_full _ n _ Ho.out hn1)
              go_wp2_with fail
              refine (C.out).mono ?_
              rintro e w5 ⟨rfl, ho1, hk1⟩
              have hb5 : Below w.heap.size w w5 := bel_kept1 hb hk1 (Nat.le_refl _) hb.size
              clear hk1
              have Ho1 := hide ho1
              clear ho1
              go_wp2_with fail
              refine (error_any 4 4 w5 (hE.below hb5 hE.pos)).mono ?_
              rintro e w6 ⟨rfl, hb6⟩
              have Ho2 := hide (ObjAt.below Ho1.out hb6)
              have hb7 := hb5.trans (hb6.mono hb5.size)
              clear hb6 Ho1
              go_wp2_with fail
              refine (lifeNow _ _ _ _ Ho2.out).mono ?_
              rintro e w7 ⟨rfl, rfl⟩
              go_wp2
              go_roundw
              case rel => exact ⟨k + 1, n, 30, rfl, rfl, by go_num, by omega, by omega, by omega, by omega, by omega, by omega, Ho2.out, hb7⟩
              case measure => simp [intOf]; omega
            · have hm1 : m < 30 := by omega
              have C := hide (lifeNext_ok _ _ _ _ Ho.out hn1 j1 j2 hm1)
              clear hm30
              go_wp2_with fail
              refine (C.out).mono ?_
              rintro e w5 ⟨rfl, ho1, hk1⟩
              have hb5 : Below w.heap.size w w5 := bel_kept1 hb hk1 (Nat.le_refl _) hb.size
              clear hk1
              have Ho1 := hide ho1
              clear ho1
              go_wp2_with fail
              refine (error_any 0 0 w5 (hE.below hb5 hE.pos)).mono ?_
              rintro e w6 ⟨rfl, hb6⟩
              have Ho2 := hide (ObjAt.below Ho1.out hb6)
              have hb7 := hb5.trans (hb6.mono hb5.size)
              clear hb6 Ho1
              go_wp2_with fail
              refine (lifeNow _ _ _ _ Ho2.out).mono ?_
              rintro e w7 ⟨rfl, rfl⟩
              go_wp2
              go_roundw
              case rel => exact ⟨k + 1, n, m + 1, rfl, rfl, by go_num, by omega, by omega, by omega, by omega, by omega, by omega, Ho2.out, hb7⟩
              case measure => simp [intOf]; omega
      · go_wp2
        go_ret
        exact ⟨rfl, hb⟩
    · go_wp2
      go_ret
      exact ⟨rfl, hb⟩
theorem walkLifePlays (w : World) (x : Option Addr) (len cap : Nat) (zs : List Int) (_hl : len ≤ cap) (_hc : cap ≤ maxLen) (hr : IntRow w x len zs) (hE : ErrT w) :
    Calls Tryd.prog 3 #[.slice x len cap] w fun e w' => e = .returned (.bool true) ∧ Below w.heap.size w w' := by
  rcases hr.split with rfl | ⟨b, off, rfl, hlt, hm, _, hc⟩
  · clear hr
    go_enter Tryd.func3, Tryd.ntmps3
    go_wp2_with fail
    refine (lifeNew _).mono ?_
    rintro e w1 ⟨rfl, rfl⟩
    go_wp2_with fail
    go_rounds 1
    go_ret
    exact ⟨rfl, by go_grown⟩
  · exact walkLifePlays1 w b off len cap zs hlt hm hc hE
end Go.Proofs.YtnfgeidiglldkaaDoor
