/- slices.IndexFunc, slices.ContainsFunc at []api.Spent; spent.Is: by contracts. -/
import Derived.Test.YtjbpkmmpbhngbaaGreatDoorErrV
import Derived.Test.YtjbpkmmpbhngbaaGreatDoorObj
import Derived.Test.YtjbpkmmpbhngbaaGreatDoorObj4
import Derived.Handy
import Derived.Shelf.Abstract
namespace Go.Proofs.YtjbpkmmpbhngbaaGreatDoor
open Go.RowKit

/-- The cells of some pairs. -/
def PC (w : World) (b off : Nat) (zs : List (Int × Int)) : Prop := ∀ j, j < zs.length → w.cell? ⟨b, off + j * 2, none⟩ = some (.int .i64 (zs.getD j (0, 0)).1) ∧ w.cell? ⟨b, off + j * 2 + 1, none⟩ = some (.int .i64 (zs.getD j (0, 0)).2)
/-- A slice of pairs. -/
def PSl (w : World) (v : Value) (zs : List (Int × Int)) : Prop := zs.length ≤ 1000 ∧ ((zs = [] ∧ ∃ a c, v = .slice a 0 c) ∨ ∃ b off c, v = .slice (some ⟨b, off, none⟩) zs.length c ∧ zs.length ≤ c ∧ b < w.heap.size ∧ PC w b off zs)
theorem PC.below {w w' : World} {b off : Nat} {zs : List (Int × Int)} (h : PC w b off zs) (hb : b < w.heap.size) (hB : Below w.heap.size w w') : PC w' b off zs :=
  fun j hj => ⟨(hB.cell (p := ⟨b, off + j * 2, none⟩) hb).trans (h j hj).1, (hB.cell (p := ⟨b, off + j * 2 + 1, none⟩) hb).trans (h j hj).2⟩
theorem PSl.below {w w' : World} {v : Value} {zs : List (Int × Int)} (h : PSl w v zs) (hB : Below w.heap.size w w') : PSl w' v zs := by
  refine ⟨h.1, ?_⟩
  rcases h.2 with h | ⟨b, off, c, h1, h2, h3, h4⟩
  · exact .inl h
  · exact .inr ⟨b, off, c, h1, h2, Nat.lt_of_lt_of_le h3 hB.size, h4.below h3 hB⟩
/-- what is asked of a predicate: it leaves all that lay there -/
def PredB (g : Nat) (lb : Array Value) (p : Int × Int → Bool) (w : World) : Prop :=
  ∀ (W : World) (x : Int × Int), Below w.heap.size w W → Calls Tryz.prog g (#[.agg #[.int .i64 x.1, .int .i64 x.2]] ++ lb) W fun e w' => e = .returned (.bool (p x)) ∧ Below W.heap.size W w'
/-- where it first holds; below 0: nowhere -/
def idxP (p : Int × Int → Bool) (zs : List (Int × Int)) : Int := if zs.findIdx p < zs.length then (zs.findIdx p : Int) else -1
theorem idxP_hit {p : Int × Int → Bool} {zs : List (Int × Int)} {k : Nat} (hk : k < zs.length) (h : p (zs.getD k (0, 0)) = true) (hb : ∀ j, j < k → p (zs.getD j (0, 0)) = false) : idxP p zs = k := by
  have e : zs.findIdx p = k := by
    rw [List.findIdx_eq hk]
    refine ⟨by simpa [List.getD, List.getElem?_eq_getElem hk] using h, fun j hj => ?_⟩
    have := hb j hj
    simpa [List.getD, List.getElem?_eq_getElem (Nat.lt_trans hj hk)] using this
  unfold idxP
  rw [e, if_pos hk]
theorem idxP_miss {p : Int × Int → Bool} {zs : List (Int × Int)} (hb : ∀ j, j < zs.length → p (zs.getD j (0, 0)) = false) : idxP p zs = -1 := by
  unfold idxP
  rw [if_neg]
  rw [List.findIdx_lt_length]
  rintro ⟨x, hx, hp⟩
  obtain ⟨j, hj, rfl⟩ := List.mem_iff_getElem.1 hx
  have := hb j hj
  simp [List.getD, List.getElem?_eq_getElem hj, hp] at this
theorem idxP_any (p : Int × Int → Bool) (zs : List (Int × Int)) : decide (0 ≤ idxP p zs) = zs.any p := by
  unfold idxP
  by_cases h : zs.findIdx p < zs.length
  · rw [if_pos h]
    have := List.findIdx_lt_length.1 h
    rw [decide_eq_true (by omega)]
    symm; rw [List.any_eq_true]; exact this
  · rw [if_neg h]
    rw [List.findIdx_lt_length] at h
    symm
    rw [show decide ((0 : Int) ≤ -1) = false from rfl, List.any_eq_false]
    exact fun x hx hp => h ⟨x, hx, hp⟩
set_option maxHeartbeats 2000000 in
theorem spIndexFunc (p : Int × Int → Bool) (g : Nat) (lb : Array Value) (eg : ∀ args w, (callFunc g args).run Tryz.prog w = .ok (.enter g args) w) (v : Value) (zs : List (Int × Int)) (w : World) (hv : PSl w v zs) (hp : PredB g lb p w) :
    Calls Tryz.prog 95 #[v, .func (.func g) #[] lb] w fun e w' => e = .returned (.int .i64 (idxP p zs)) ∧ Below w.heap.size w w' := by
  obtain ⟨hl, ⟨rfl, a, c, rfl⟩ | ⟨b, off, c, rfl, hc, hb, hpc⟩⟩ := hv
  · go_enter Tryz.func95, Tryz.ntmps95
    go_wp2
    go_rounds 1
    go_ret
    exact ⟨rfl, Below.refl _ _⟩
  · obtain ⟨n, hn⟩ : ∃ n, n = zs.length := ⟨_, rfl⟩
    rw [← hn] at hl hc ⊢
    have Hn := hide hn
    have HPC := hide hpc
    have HP := hide hp
    clear hn hpc hp
    go_enter Tryz.func95, Tryz.ntmps95
    go_wp2_with fail
    go_loopw [5, 8] (fun _ i wr => ∃ k : Nat, i = .int .i64 (k : Int) ∧ k ≤ n ∧ Hid (∀ j, j < k → p (zs.getD j (0, 0)) = false) ∧ Below w.heap.size w wr) (fun _ i _ => 2000 - (intOf i).toNat)
    case atStart => exact ⟨0, rfl, by omega, hide (fun j hj => by omega), Below.refl _ _⟩
    case round =>
      obtain ⟨k, rfl, hk, hall, hbw⟩ := hrel
      by_cases hlt : k < n
      · have hc2 := HPC.out.below hb hbw k (by rw [← Hn.out]; exact hlt)
        obtain ⟨q0, q1⟩ := hc2
        have hcall := HP.out wr (zs.getD k (0, 0)) hbw
        obtain ⟨y, hy⟩ : ∃ y, y = zs.getD k (0, 0) := ⟨_, rfl⟩
        rw [← hy] at q0 q1 hcall
        have HY := hide hy
        clear hy
        obtain ⟨y1, y2⟩ := y
        simp only at q0 q1 hcall
        have HC := hide hcall
        clear hcall
        cases hq : p (y1, y2)
        · rw [hq] at HC
          have Hq := hide hq
          clear hq
          go_wp2_with fail
          refine HC.out.mono ?_
          rintro e w' ⟨rfl, hb'⟩
          go_wp2
          go_roundw
          case rel =>
            refine ⟨k + 1, by go_num, by omega, hide (fun j hj => ?_), hbw.trans (hb'.mono hbw.size)⟩
            by_cases e : j = k
            · rw [e, ← HY.out]; exact Hq.out
            · exact hall.out j (by omega)
          case measure => simp [intOf] <;> omega
        · rw [hq] at HC
          have Hq := hide hq
          clear hq
          go_wp2_with fail
          refine HC.out.mono ?_
          rintro e w' ⟨rfl, hb'⟩
          go_wp2
          go_ret
          exact ⟨by rw [idxP_hit (by rw [← Hn.out]; exact hlt) (by rw [← HY.out]; exact Hq.out) hall.out]; rfl, hbw.trans (hb'.mono hbw.size)⟩
      · obtain rfl : k = n := by omega
        go_wp2
        go_ret
        exact ⟨by rw [idxP_miss (by rw [← Hn.out]; exact hall.out)]; rfl, hbw⟩
theorem spContainsFunc (p : Int × Int → Bool) (g : Nat) (lb : Array Value) (eg : ∀ args w, (callFunc g args).run Tryz.prog w = .ok (.enter g args) w) (v : Value) (zs : List (Int × Int)) (w : World) (hv : PSl w v zs) (hp : PredB g lb p w) :
    Calls Tryz.prog 74 #[v, .func (.func g) #[] lb] w fun e w' => e = .returned (.bool (zs.any p)) ∧ Below w.heap.size w w' := by
  have C := hide (spIndexFunc p g lb eg v zs w hv hp)
  have HA := hide (idxP_any p zs)
  generalize idxP p zs = r at C HA
  clear hp hv
  go_enter Tryz.func74, Tryz.ntmps74
  go_wp2_with fail
  refine C.out.mono ?_
  rintro e w1 ⟨rfl, hb1⟩
  go_wp2
  go_ret
  exact ⟨retB HA.out, hb1⟩
/-- the closure of Is: is it that number? -/
theorem spIsPred (n : Int) (B : Nat) (w : World) (hB : B < w.heap.size) (hcell : w.cell? ⟨B, 0, none⟩ = some (.int .i64 n)) :
    PredB 75 #[.pointer (some ⟨B, 0, none⟩)] (fun x => x.1 == n) w := fun W x hb => by
  have hc : W.cell? ⟨B, 0, none⟩ = some (.int .i64 n) := (hb.cell (p := ⟨B, 0, none⟩) hB).trans hcell
  have hBW : B < W.heap.size := Nat.lt_of_lt_of_le hB hb.size
  have hne : B ≠ W.heap.size := by omega
  show Calls Tryz.prog 75 #[.agg #[.int .i64 x.1, .int .i64 x.2], .pointer (some ⟨B, 0, none⟩)] W _
  obtain ⟨x1, x2⟩ := x
  clear hcell
  go_enter Tryz.func75, Tryz.ntmps75
  go_wp2
  all_goals (go_ret; exact ⟨rfl, by go_grown⟩)
/-- is a number spent? -/
theorem spIs (n : Int) (v : Value) (zs : List (Int × Int)) (w : World) (hv : PSl w v zs) :
    Calls Tryz.prog 53 #[v, .int .i64 n] w fun e w' => e = .returned (.bool (zs.any (fun x => x.1 == n))) ∧ Below w.heap.size w w' := by
  have eg : ∀ args w, (callFunc 75 args).run Tryz.prog w = .ok (.enter 75 args) w := enters_of Tryz.func75 (by kernel_rfl) rfl
  have C := hide (spContainsFunc (fun x => x.1 == n) 75 #[.pointer (some ⟨w.heap.size, 0, none⟩)] eg v zs (w.alloc (.cells #[.int .i64 n] 3)) (hv.below ((Below.refl _ _).alloc (Nat.le_refl _) _)) (spIsPred n w.heap.size _ (by simp) (by simp)))
  clear hv
  generalize zs.any (fun x => x.1 == n) = r at C ⊢
  go_enter Tryz.func53, Tryz.ntmps53
  go_wp2_with fail
  refine C.out.mono ?_
  rintro e w1 ⟨rfl, hb1⟩
  go_wp2
  go_ret
  exact ⟨rfl, bel_a1 hb1⟩
end Go.Proofs.YtjbpkmmpbhngbaaGreatDoor
