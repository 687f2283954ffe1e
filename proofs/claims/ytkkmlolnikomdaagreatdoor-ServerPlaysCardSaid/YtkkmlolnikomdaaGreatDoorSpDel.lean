/- slices.DeleteFunc at []api.Spent; spent.left: by contracts. -/
import Derived.Test.YtkkmlolnikomdaaGreatDoorServerPlaysProofM3
namespace Go.Proofs.YtkkmlolnikomdaaGreatDoor
open Go.RowKit

set_option maxRecDepth 100000 in
set_option maxHeartbeats 8000000 in
theorem spDelete (B : Nat) (p : Int × Int → Bool) (g : Nat) (lb : Array Value) (eg : ∀ args w, (callFunc g args).run Tryz.prog w = .ok (.enter g args) w) (v : Value) (zs : List (Int × Int)) (w : World) (hl : zs.length ≤ 1000)
    (hown : w.ownsRow B 116 2 v zs.length (flat zs)) (hB : B ≤ w.heap.size) (hp : PredO B g lb p w) :
    Calls Tryz.prog 85 #[v, .func (.func g) #[] lb] w fun e w' => ∃ v', e = .returned v' ∧ w'.ownsRow B 116 2 v' (zs.filter fun x => !p x).length (flat (zs.filter fun x => !p x)) ∧ Below B w w' := by
  have CI := hide (spIndexFunc p g lb eg v zs w (own_psl hown hl) (fun W x hb => hp W x (hb.mono hB)))
  have HP := hide hp
  clear hp
  rcases idxP_cases p zs with ⟨e1, hall⟩ | ⟨k, hk, e1, hpk, hall⟩
  · rw [e1] at CI
    have e2 : (zs.filter fun x => !p x) = zs := by
      rw [List.filter_eq_self]
      intro x hx
      obtain ⟨j, hj, rfl⟩ := List.mem_iff_getElem.1 hx
      have := hall j hj
      simpa [List.getD, List.getElem?_eq_getElem hj] using this
    rw [e2]
    have Hown := hide hown
    clear hown hall e1 e2
    go_enter Tryz.func85, Tryz.ntmps85
    go_wp2_with fail
    refine CI.out.mono ?_
    rintro e w1 ⟨rfl, hb1⟩
    go_wp2
    go_ret
    exact ⟨v, rfl, own_below Hown.out hb1, hb1.mono hB⟩
  · rw [e1] at CI
    obtain ⟨gb, cap, rfl, hgB, hgl, hnc, hcm⟩ := own_form hown (by omega)
    unfold maxLen at hcm
    obtain ⟨n, hn⟩ : ∃ n, n = zs.length := ⟨_, rfl⟩
    have hinv0 : dfInv (fun x => !p x) zs (flat zs) k (k + 1) := dfInv.start hk (fun j hj => by show (!p _) = true; rw [hall j hj]; rfl) (by show (!p _) = false; rw [hpk]; rfl)
    have HI0 := hide hinv0
    rw [← hn] at hown CI hnc hl hk ⊢
    have Hn := hide hn
    have Hown := hide hown
    have tk : ((k : Int) == -1) = false := beq_eq_false_iff_ne.2 (by omega)
    clear hown hall e1 hpk hinv0 hn
    go_enter Tryz.func85, Tryz.ntmps85
    go_wp2_with fail
    refine CI.out.mono ?_
    rintro e w1 ⟨rfl, hb1⟩
    have H1 := hide (own_below Hown.out hb1)
    have HB1 := hide (hb1.mono hB)
    have hs1 : gb < w1.heap.size := Nat.lt_of_lt_of_le hgl hb1.size
    clear CI hb1 Hown
    go_wp2_with fail
    go_loopw [5, 6] (fun si sj wr => ∃ (i j : Nat) (xs : List Value), si = .int .i64 (i : Int) ∧ sj = .int .i64 (j : Int) ∧ k + 1 ≤ j ∧ j ≤ n ∧ i < j ∧ Hid (dfInv (fun x => !p x) zs xs i j) ∧ wr.ownsRow B 116 2 (.slice (some ⟨gb, 0, none⟩) n cap) n xs ∧ gb < wr.heap.size ∧ Below B w wr) (fun _ sj _ => 2000 - (intOf sj).toNat)
    case atStart => exact ⟨k, k + 1, flat zs, rfl, by go_num, by omega, by omega, by omega, HI0, H1.out, hs1, HB1.out⟩
    case round =>
      obtain ⟨i, j, xs, rfl, rfl, hj1, hj2, hij, hinv, hown, hgw, hbw⟩ := hrel
      clear HI0 H1 HB1 hs1
      have hxl : xs.length = zs.length * 2 := by have := hown.1; rw [← Hn.out]; exact this
      have Hxl := hide hxl
      have HO := hide hown
      have HBW := hide hbw
      clear hxl
      by_cases hlt : j < n
      · have hjz : j < zs.length := by rw [← Hn.out]; exact hlt
        obtain ⟨g0, g1⟩ := flat_get zs j hjz
        have q0 : wr.cell? ⟨gb, j * 2, none⟩ = some (.int .i64 (zs.getD j (0, 0)).1) := (hown.cellAt (j * 2) (by omega)).trans ((hinv.out.2.2 (j * 2) (by omega) (by omega)).trans g0)
        have q1 : wr.cell? ⟨gb, j * 2 + 1, none⟩ = some (.int .i64 (zs.getD j (0, 0)).2) := (hown.cellAt (j * 2 + 1) (by omega)).trans ((hinv.out.2.2 (j * 2 + 1) (by omega) (by omega)).trans g1)
        obtain ⟨y, hy⟩ : ∃ y, y = zs.getD j (0, 0) := ⟨_, rfl⟩
        rw [← hy] at q0 q1
        have HY := hide hy
        have HJ := hide hjz
        clear hy g0 g1 hjz
        obtain ⟨y1, y2⟩ := y
        simp only at q0 q1
        have HC := hide (HP.out (wr.alloc (.cells #[.int .i64 y1, .int .i64 y2] 116)) (y1, y2) (hbw.alloc (by omega) _))
        clear hown hbw
        have hiz : i * 2 + 1 < n * 2 := by omega
        cases hq : p (y1, y2)
        · rw [hq] at HC
          have Hq := hide hq
          clear hq
          go_wp2_with fail
          refine HC.out.mono ?_
          rintro e w2 ⟨rfl, hb2⟩
          have o2 : ObjAt w2 wr.heap.size 116 [.int .i64 y1, .int .i64 y2] := ObjAt.below (ObjAt.new _ _ _) hb2
          have t0 := o2.cell (i := 0) rfl
          have t1 := o2.cell (i := 1) rfl
          have hown2 := own_below (HO.out.alloc (.cells #[.int .i64 y1, .int .i64 y2] 116)) hb2
          have f0 := hown2.frozenAt (i * 2)
          have f1 := hown2.frozenAt (i * 2 + 1)
          obtain ⟨z0, c0⟩ : ∃ z, w2.cell? ⟨gb, i * 2, none⟩ = some z := ⟨_, (hown2.cellAt (i * 2) (by omega)).trans (List.getElem?_eq_getElem (by rw [Hxl.out, ← Hn.out]; omega))⟩
          obtain ⟨z1, c1⟩ : ∃ z, w2.cell? ⟨gb, i * 2 + 1, none⟩ = some z := ⟨_, (hown2.cellAt (i * 2 + 1) (by omega)).trans (List.getElem?_eq_getElem (by rw [Hxl.out, ← Hn.out]; omega))⟩
          have hg2 : gb < w2.heap.size := by have := hb2.size; simp at this; omega
          have HB2 := hide (Below.trans (HBW.out.alloc (by have := HBW.out.size; omega) _) (hb2.mono (by have := HBW.out.size; simp; omega)))
          have HO2 := hide hown2
          have hne : gb ≠ wr.heap.size := by omega
          clear o2 hown2 hb2 HC HO HBW
          go_wp2
          go_roundw
          case rel =>
            refine ⟨i + 1, j + 1, _, by go_num, by go_num, by omega, by omega, by omega, hide ?_, ((HO2.out.stored (i * 2) _).1.stored (i * 2 + 1) _).1, by simpa using hg2, (HB2.out.setCell hgB _).setCell hgB _⟩
            have := hinv.out.keep Hxl.out HJ.out (by show (!p _) = true; rw [← HY.out, Hq.out]; rfl)
            rwa [← HY.out] at this
          case measure => simp [intOf] <;> omega
        · rw [hq] at HC
          have Hq := hide hq
          clear hq
          go_wp2_with fail
          refine HC.out.mono ?_
          rintro e w2 ⟨rfl, hb2⟩
          have HO2 := hide (own_below (HO.out.alloc (.cells #[.int .i64 y1, .int .i64 y2] 116)) hb2)
          have hg2 : gb < w2.heap.size := by have := hb2.size; simp at this; omega
          have HB2 := hide (Below.trans (HBW.out.alloc (by have := HBW.out.size; omega) _) (hb2.mono (by have := HBW.out.size; simp; omega)))
          clear hb2 HC HO HBW
          go_wp2
          go_roundw
          case rel => exact ⟨i, j + 1, xs, rfl, by go_num, by omega, by omega, by omega, hide (hinv.out.skip HJ.out (by show (!p _) = false; rw [← HY.out, Hq.out]; rfl)), HO2.out, hg2, HB2.out⟩
          case measure => simp [intOf] <;> omega
      · obtain rfl : j = n := by omega
        have hic : i < cap := by omega
        have hcl : ∀ ty, (Builtin.clear_ #[50] ty #[.slice (some ⟨gb, i * 2, none⟩) (j - i) (cap - i)]).run Tryz.prog wr = .ok (.tuple #[]) (wr.setCells gb (i * 2) (List.replicate ((j - i) * 2) (.int .i64 0))) := fun ty =>
          run_clear_pairs wr _ _ ty Tryz.underlying50 Tryz.zeroSp gb (i * 2) (j - i) (cap - i) (by omega) (fun t ht => by rw [hown.cellAt (i * 2 + t) (by omega), List.getElem?_eq_getElem (by rw [Hxl.out, ← Hn.out]; omega)]; rfl) (fun t _ => hown.frozenAt _)
        clear hown hbw
        go_wp2
        go_ret
        obtain ⟨ys, h1, h2⟩ := own_setCells (List.replicate ((j - i) * 2) (.int .i64 0)) (i * 2) wr xs HO.out
        have e3 : (zs.take j).filter (fun x => !p x) = zs.filter (fun x => !p x) := by rw [Hn.out, List.take_length]
        have hh := hinv.out
        refine ⟨_, rfl, ?_, below_setCells hgB _ _ _ HBW.out⟩
        rw [← e3, ← hh.1]
        refine own_cut h1 (by omega) ?_
        rw [← hh.2.1]
        apply List.ext_getElem?
        intro t
        by_cases ht : t < i * 2
        · rw [List.getElem?_take_of_lt ht, List.getElem?_take_of_lt ht, h2 t ht]
        · rw [List.getElem?_eq_none (by simp; omega), List.getElem?_eq_none (by simp; omega)]
/-- the closure of left: is it over? -/
theorem spLeftPred (now : Int) (b B : Nat) (w : World) (hb : b < B) (hB : B ≤ w.heap.size) (hcell : w.cell? ⟨b, 0, none⟩ = some (.int .i64 now)) :
    PredO B 86 #[.pointer (some ⟨b, 0, none⟩)] (fun x => decide (x.2 < now)) w := fun W x hbw => by
  have hc : W.cell? ⟨b, 0, none⟩ = some (.int .i64 now) := (hbw.cell (p := ⟨b, 0, none⟩) hb).trans hcell
  have hBW : b < W.heap.size := by have := hbw.size; omega
  have hne : b ≠ W.heap.size := by omega
  show Calls Tryz.prog 86 #[.agg #[.int .i64 x.1, .int .i64 x.2], .pointer (some ⟨b, 0, none⟩)] W _
  obtain ⟨x1, x2⟩ := x
  clear hcell
  go_enter Tryz.func86, Tryz.ntmps86
  go_wp2
  all_goals (go_ret; exact ⟨by simp_all, by go_grown⟩)
/-- those that are not over -/
def spDrop (zs : List (Int × Int)) (now : Int) : List (Int × Int) := zs.filter fun x => !decide (x.2 < now)
theorem spLeft (now : Int) (v : Value) (zs : List (Int × Int)) (w : World) (hv : PSl w v zs) :
    Calls Tryz.prog 83 #[v, .int .i64 now] w fun e w' => ∃ v', e = .returned v' ∧ w'.ownsRow (w.heap.size + 1) 116 2 v' (spDrop zs now).length (flat (spDrop zs now)) ∧ Below w.heap.size w w' := by
  have eg : ∀ args w, (callFunc 86 args).run Tryz.prog w = .ok (.enter 86 args) w := enters_of Tryz.func86 (by kernel_rfl) rfl
  have hl := hv.1
  have C := hide (spClone v zs (w.alloc (.cells #[.int .i64 now] 3)) (hv.below ((Below.refl _ _).alloc (Nat.le_refl _) _)))
  clear hv
  go_enter Tryz.func83, Tryz.ntmps83
  go_wp2_with fail
  refine C.out.mono ?_
  rintro e w1 ⟨v1, rfl, hown1, hb1⟩
  have hb1' : Below (w.heap.size + 1) (w.alloc (.cells #[.int .i64 now] 3)) w1 := by simpa using hb1
  have hown1' : w1.ownsRow (w.heap.size + 1) 116 2 v1 zs.length (flat zs) := by simpa using hown1
  have hs1 : w.heap.size + 1 ≤ w1.heap.size := by have := hb1.size; simpa using this
  have hcell : w1.cell? ⟨w.heap.size, 0, none⟩ = some (.int .i64 now) := (hb1'.cell (p := ⟨w.heap.size, 0, none⟩) (by simp)).trans (by simp)
  have D := hide (spDelete (w.heap.size + 1) (fun x => decide (x.2 < now)) 86 #[.pointer (some ⟨w.heap.size, 0, none⟩)] eg v1 zs w1 hl hown1' hs1 (spLeftPred now w.heap.size (w.heap.size + 1) w1 (by omega) hs1 hcell))
  have HB := hide hb1
  clear hb1 hb1' hown1 hown1' hcell
  go_wp2_with fail
  refine D.out.mono ?_
  rintro e w2 ⟨v2, rfl, hown2, hb2⟩
  go_wp2
  go_ret
  exact ⟨v2, rfl, hown2, (bel_a1 HB.out).trans (hb2.mono (by omega))⟩
end Go.Proofs.YtkkmlolnikomdaaGreatDoor
