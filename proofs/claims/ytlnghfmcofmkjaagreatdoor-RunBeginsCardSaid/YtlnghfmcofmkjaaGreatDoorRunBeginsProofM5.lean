/- slices.IndexFunc, slices.ContainsFunc at []api.Spent; spent.Is: by contracts. Rows of pairs: plain lemmas. -/
import Derived.Test.YtlnghfmcofmkjaaGreatDoorRunBeginsProofM3
import Derived.Test.YtlnghfmcofmkjaaGreatDoorObj
import Derived.Test.YtlnghfmcofmkjaaGreatDoorRunBeginsProofM4
import Derived.Handy
import Derived.Shelf.Abstract
import Derived.Lib.SliceRun
namespace Go.Proofs.YtlnghfmcofmkjaaGreatDoor
open Go.RowKit

/-- The cells of some pairs. -/
def PC (w : World) (b off : Nat) (zs : List (Int × Int)) : Prop := ∀ j, j < zs.length → w.cell? ⟨b, off + j * 2, none⟩ = some (.int .i64 (zs.getD j (0, 0)).1) ∧ w.cell? ⟨b, off + j * 2 + 1, none⟩ = some (.int .i64 (zs.getD j (0, 0)).2)
/-- A slice of pairs. -/
def PSl (w : World) (v : Value) (zs : List (Int × Int)) : Prop := zs.length ≤ 1000 ∧ ((zs = [] ∧ ∃ a c, v = .slice a 0 c) ∨ ∃ b off c, v = .slice (some ⟨b, off, none⟩) zs.length c ∧ zs.length ≤ c ∧ b < w.heap.size ∧ PC w b off zs)
theorem PC.below {w w' : World} {b off : Nat} {zs : List (Int × Int)} (h : PC w b off zs) (hb : b < w.heap.size) (hB : Below w.heap.size w w') : PC w' b off zs :=
  fun j hj => ⟨(hB.cell (p := ⟨b, off + j * 2, none⟩) hb).trans (h j hj).1, (hB.cell (p := ⟨b, off + j * 2 + 1, none⟩) hb).trans (h j hj).2⟩
theorem PSl.below {w w' : World} {v : Value} {zs : List (Int × Int)} (h : PSl w v zs) (hB : Below w.heap.size w w') : PSl w' v zs := by
  refine ⟨h.1, ?_⟩
  rcases h.2 with h | ⟨b, off, c, h1, h2, h3, h4⟩
  · exact .inl h
  · exact .inr ⟨b, off, c, h1, h2, Nat.lt_of_lt_of_le h3 hB.size, h4.below h3 hB⟩
/-- what is asked of a predicate: it leaves all that lay there -/
def PredB (g : Nat) (lb : Array Value) (p : Int × Int → Bool) (w : World) : Prop :=
  ∀ (W : World) (x : Int × Int), Below w.heap.size w W → Calls Tryz.prog g (#[.agg #[.int .i64 x.1, .int .i64 x.2]] ++ lb) W fun e w' => e = .returned (.bool (p x)) ∧ Below W.heap.size W w'
/-- where it first holds; below 0: nowhere -/
def idxP (p : Int × Int → Bool) (zs : List (Int × Int)) : Int := if zs.findIdx p < zs.length then (zs.findIdx p : Int) else -1
theorem idxP_hit {p : Int × Int → Bool} {zs : List (Int × Int)} {k : Nat} (hk : k < zs.length) (h : p (zs.getD k (0, 0)) = true) (hb : ∀ j, j < k → p (zs.getD j (0, 0)) = false) : idxP p zs = k := by
  have e : zs.findIdx p = k := by
    rw [List.findIdx_eq hk]
    refine ⟨by simpa [List.getD, List.getElem?_eq_getElem hk] using h, fun j hj => ?_⟩
    have := hb j hj
    simpa [List.getD, List.getElem?_eq_getElem (Nat.lt_trans hj hk)] using this
  unfold idxP
  rw [e, if_pos hk]
theorem idxP_miss {p : Int × Int → Bool} {zs : List (Int × Int)} (hb : ∀ j, j < zs.length → p (zs.getD j (0, 0)) = false) : idxP p zs = -1 := by
  unfold idxP
  rw [if_neg]
  rw [List.findIdx_lt_length]
  rintro ⟨x, hx, hp⟩
  obtain ⟨j, hj, rfl⟩ := List.mem_iff_getElem.1 hx
  have := hb j hj
  simp [List.getD, List.getElem?_eq_getElem hj, hp] at this
theorem idxP_any (p : Int × Int → Bool) (zs : List (Int × Int)) : decide (0 ≤ idxP p zs) = zs.any p := by
  unfold idxP
  by_cases h : zs.findIdx p < zs.length
  · rw [if_pos h]
    have := List.findIdx_lt_length.1 h
    rw [decide_eq_true (by omega)]
    symm; rw [List.any_eq_true]; exact this
  · rw [if_neg h]
    rw [List.findIdx_lt_length] at h
    symm
    rw [show decide ((0 : Int) ≤ -1) = false from rfl, List.any_eq_false]
    exact fun x hx hp => h ⟨x, hx, hp⟩
set_option maxHeartbeats 2000000 in
theorem spIndexFunc (p : Int × Int → Bool) (g : Nat) (lb : Array Value) (eg : ∀ args w, (callFunc g args).run Tryz.prog w = .ok (.enter g args) w) (v : Value) (zs : List (Int × Int)) (w : World) (hv : PSl w v zs) (hp : PredB g lb p w) :
    Calls Tryz.prog 168 #[v, .func (.func g) #[] lb] w fun e w' => e = .returned (.int .i64 (idxP p zs)) ∧ Below w.heap.size w w' := by
  obtain ⟨hl, ⟨rfl, a, c, rfl⟩ | ⟨b, off, c, rfl, hc, hb, hpc⟩⟩ := hv
  · go_enter Tryz.func168, Tryz.ntmps168
    go_wp2
    go_rounds 1
    go_ret
    exact ⟨rfl, Below.refl _ _⟩
  · obtain ⟨n, hn⟩ : ∃ n, n = zs.length := ⟨_, rfl⟩
    rw [← hn] at hl hc ⊢
    have Hn := hide hn
    have HPC := hide hpc
    have HP := hide hp
    clear hn hpc hp
    go_enter Tryz.func168, Tryz.ntmps168
    go_wp2_with fail
    go_loopw [5, 8] (fun _ i wr => ∃ k : Nat, i = .int .i64 (k : Int) ∧ k ≤ n ∧ Hid (∀ j, j < k → p (zs.getD j (0, 0)) = false) ∧ Below w.heap.size w wr) (fun _ i _ => 2000 - (intOf i).toNat)
    case atStart => exact ⟨0, rfl, by omega, hide (fun j hj => by omega), Below.refl _ _⟩
    case round =>
      obtain ⟨k, rfl, hk, hall, hbw⟩ := hrel
      by_cases hlt : k < n
      · have hc2 := HPC.out.below hb hbw k (by rw [← Hn.out]; exact hlt)
        obtain ⟨q0, q1⟩ := hc2
        have hcall := HP.out wr (zs.getD k (0, 0)) hbw
        obtain ⟨y, hy⟩ : ∃ y, y = zs.getD k (0, 0) := ⟨_, rfl⟩
        rw [← hy] at q0 q1 hcall
        have HY := hide hy
        clear hy
        obtain ⟨y1, y2⟩ := y
        simp only at q0 q1 hcall
        have HC := hide hcall
        clear hcall
        cases hq : p (y1, y2)
        · rw [hq] at HC
          have Hq := hide hq
          clear hq
          go_wp2_with fail
          refine HC.out.mono ?_
          rintro e w' ⟨rfl, hb'⟩
          go_wp2
          go_roundw
          case rel =>
            refine ⟨k + 1, by go_num, by omega, hide (fun j hj => ?_), hbw.trans (hb'.mono hbw.size)⟩
            by_cases e : j = k
            · rw [e, ← HY.out]; exact Hq.out
            · exact hall.out j (by omega)
          case measure => simp [intOf] <;> omega
        · rw [hq] at HC
          have Hq := hide hq
          clear hq
          go_wp2_with fail
          refine HC.out.mono ?_
          rintro e w' ⟨rfl, hb'⟩
          go_wp2
          go_ret
          exact ⟨by rw [idxP_hit (by rw [← Hn.out]; exact hlt) (by rw [← HY.out]; exact Hq.out) hall.out]; rfl, hbw.trans (hb'.mono hbw.size)⟩
      · obtain rfl : k = n := by omega
        go_wp2
        go_ret
        exact ⟨by rw [idxP_miss (by rw [← Hn.out]; exact hall.out)]; rfl, hbw⟩
theorem spContainsFunc (p : Int × Int → Bool) (g : Nat) (lb : Array Value) (eg : ∀ args w, (callFunc g args).run Tryz.prog w = .ok (.enter g args) w) (v : Value) (zs : List (Int × Int)) (w : World) (hv : PSl w v zs) (hp : PredB g lb p w) :
    Calls Tryz.prog 166 #[v, .func (.func g) #[] lb] w fun e w' => e = .returned (.bool (zs.any p)) ∧ Below w.heap.size w w' := by
  have C := hide (spIndexFunc p g lb eg v zs w hv hp)
  have HA := hide (idxP_any p zs)
  generalize idxP p zs = r at C HA
  clear hp hv
  go_enter Tryz.func166, Tryz.ntmps166
  go_wp2_with fail
  refine C.out.mono ?_
  rintro e w1 ⟨rfl, hb1⟩
  go_wp2
  go_ret
  exact ⟨retB HA.out, hb1⟩
/-- the closure of Is: is it that number? -/
theorem spIsPred (n : Int) (B : Nat) (w : World) (hB : B < w.heap.size) (hcell : w.cell? ⟨B, 0, none⟩ = some (.int .i64 n)) :
    PredB 167 #[.pointer (some ⟨B, 0, none⟩)] (fun x => x.1 == n) w := fun W x hb => by
  have hc : W.cell? ⟨B, 0, none⟩ = some (.int .i64 n) := (hb.cell (p := ⟨B, 0, none⟩) hB).trans hcell
  have hBW : B < W.heap.size := Nat.lt_of_lt_of_le hB hb.size
  have hne : B ≠ W.heap.size := by omega
  show Calls Tryz.prog 167 #[.agg #[.int .i64 x.1, .int .i64 x.2], .pointer (some ⟨B, 0, none⟩)] W _
  obtain ⟨x1, x2⟩ := x
  clear hcell
  go_enter Tryz.func167, Tryz.ntmps167
  go_wp2
  all_goals (go_ret; exact ⟨rfl, by go_grown⟩)
/-- is a number spent? -/
theorem spIs (n : Int) (v : Value) (zs : List (Int × Int)) (w : World) (hv : PSl w v zs) :
    Calls Tryz.prog 161 #[v, .int .i64 n] w fun e w' => e = .returned (.bool (zs.any (fun x => x.1 == n))) ∧ Below w.heap.size w w' := by
  have eg : ∀ args w, (callFunc 167 args).run Tryz.prog w = .ok (.enter 167 args) w := enters_of Tryz.func167 (by kernel_rfl) rfl
  have C := hide (spContainsFunc (fun x => x.1 == n) 167 #[.pointer (some ⟨w.heap.size, 0, none⟩)] eg v zs (w.alloc (.cells #[.int .i64 n] 3)) (hv.below ((Below.refl _ _).alloc (Nat.le_refl _) _)) (spIsPred n w.heap.size _ (by simp) (by simp)))
  clear hv
  generalize zs.any (fun x => x.1 == n) = r at C ⊢
  go_enter Tryz.func161, Tryz.ntmps161
  go_wp2_with fail
  refine C.out.mono ?_
  rintro e w1 ⟨rfl, hb1⟩
  go_wp2
  go_ret
  exact ⟨rfl, bel_a1 hb1⟩
end Go.Proofs.YtlnghfmcofmkjaaGreatDoor

namespace Go.Proofs.YtlnghfmcofmkjaaGreatDoor
open Go.RowKit

/-- the cells of some pairs, one behind the other -/
def flat (zs : List (Int × Int)) : List Value := zs.flatMap fun x => [.int .i64 x.1, .int .i64 x.2]
theorem flat_nil : flat [] = [] := rfl
theorem flat_cons (x : Int × Int) (zs : List (Int × Int)) : flat (x :: zs) = .int .i64 x.1 :: .int .i64 x.2 :: flat zs := rfl
theorem flat_append (a b : List (Int × Int)) : flat (a ++ b) = flat a ++ flat b := by simp [flat]
theorem flat_length (zs : List (Int × Int)) : (flat zs).length = zs.length * 2 := by
  induction zs with
  | nil => rfl
  | cons x l ih => rw [flat_cons]; simp [ih]; omega
theorem flat_get (zs : List (Int × Int)) : ∀ j, j < zs.length → (flat zs)[j * 2]? = some (.int .i64 (zs.getD j (0, 0)).1) ∧ (flat zs)[j * 2 + 1]? = some (.int .i64 (zs.getD j (0, 0)).2) := by
  induction zs with
  | nil => intro j hj; simp at hj
  | cons x l ih =>
    intro j hj
    cases j with
    | zero => simp [flat_cons]
    | succ j =>
      have := ih j (by simpa using hj)
      rw [flat_cons, show (j + 1) * 2 = j * 2 + 1 + 1 by omega]
      simpa using this
theorem flat_oneCell (zs : List (Int × Int)) : ∀ u ∈ flat zs, u.oneCell' = true := by
  intro u hu
  obtain ⟨x, _, hx⟩ := List.mem_flatMap.1 hu
  simp at hx
  rcases hx with rfl | rfl <;> rfl
theorem own_psl {w : World} {base : Nat} {e : TypeId} {v : Value} {zs : List (Int × Int)} (h : w.ownsRow base e 2 v zs.length (flat zs)) (hl : zs.length ≤ 1000) : PSl w v zs := by
  refine ⟨hl, ?_⟩
  rcases h.2 with ⟨rfl, h0⟩ | ⟨g, cap, cur, rfl, hb, hg, hnc, hcm, hcs, htk⟩
  · exact .inl ⟨List.eq_nil_of_length_eq_zero h0, none, 0, rfl⟩
  · refine .inr ⟨g, 0, cap, rfl, hnc, lt_of_block hg, fun j hj => ?_⟩
    have hf := flat_get zs j hj
    have hc := fun t ht => World.ownsRow.cellAt (w := w) (base := base) (e := e) (size := 2) (g := g) (n := zs.length) (cap := cap) (xs := flat zs) h t ht
    rw [Nat.zero_add]
    exact ⟨(hc _ (by omega)).trans hf.1, (hc _ (by omega)).trans hf.2⟩
theorem own_cut {w : World} {base g n cap i : Nat} {e : TypeId} {xs ys : List Value} (h : w.ownsRow base e 2 (.slice (some ⟨g, 0, none⟩) n cap) n xs) (hi : i ≤ n) (hy : xs.take (i * 2) = ys) : w.ownsRow base e 2 (.slice (some ⟨g, 0, none⟩) i cap) i ys := by
  rcases h.2 with ⟨h', _⟩ | ⟨g', cap', cur, h', hb, hg, hnc, hcm, hcs, htake⟩
  · simp at h'
  · simp only [Value.slice.injEq, Option.some.injEq, Addr.mk.injEq, and_true, true_and] at h'
    obtain ⟨rfl, rfl⟩ := h'
    have hl := h.1
    subst hy
    refine ⟨by rw [List.length_take, hl]; omega, .inr ⟨g, cap, cur, rfl, hb, hg, by omega, hcm, hcs, ?_⟩⟩
    rw [← htake, List.take_take]
    congr 1; omega
theorem own_setCells {base g n cap : Nat} {e : TypeId} : ∀ (vs : List Value) (o : Nat) (w : World) (xs : List Value), w.ownsRow base e 2 (.slice (some ⟨g, 0, none⟩) n cap) n xs → ∃ ys, (w.setCells g o vs).ownsRow base e 2 (.slice (some ⟨g, 0, none⟩) n cap) n ys ∧ (∀ t, t < o → ys[t]? = xs[t]?)
  | [], _, _, xs, h => ⟨xs, h, fun _ _ => rfl⟩
  | v :: r, o, w, xs, h => by
    obtain ⟨ys, h1, h2⟩ := own_setCells r (o + 1) _ _ (h.stored o v).1
    exact ⟨ys, h1, fun t ht => by rw [h2 t (by omega), List.getElem?_set_ne (by omega)]⟩
theorem below_setCells {B g : Nat} {a : World} (hg : B ≤ g) : ∀ (vs : List Value) (o : Nat) (w : World), Below B a w → Below B a (w.setCells g o vs)
  | [], _, _, h => h
  | v :: r, o, _, h => below_setCells hg r (o + 1) _ (h.setCell hg v)
/-- what DeleteFunc has behind j elements -/
def dfInv (q : Int × Int → Bool) (zs : List (Int × Int)) (xs : List Value) (i j : Nat) : Prop :=
  i = ((zs.take j).filter q).length ∧ xs.take (i * 2) = flat ((zs.take j).filter q) ∧ ∀ t, j * 2 ≤ t → t < zs.length * 2 → xs[t]? = (flat zs)[t]?
theorem take_snocP (zs : List (Int × Int)) (j : Nat) (hj : j < zs.length) : zs.take (j + 1) = zs.take j ++ [zs.getD j (0, 0)] := by
  rw [List.take_add_one, List.getElem?_eq_getElem hj]; simp [List.getD, List.getElem?_eq_getElem hj]
theorem dfInv.le {q : Int × Int → Bool} {zs : List (Int × Int)} {xs : List Value} {i j : Nat} (h : dfInv q zs xs i j) : i ≤ j := by
  rw [h.1]
  exact Nat.le_trans (List.length_filter_le _ _) (by simp; omega)
theorem dfInv.skip {q : Int × Int → Bool} {zs : List (Int × Int)} {xs : List Value} {i j : Nat} (h : dfInv q zs xs i j) (hj : j < zs.length) (hq : q (zs.getD j (0, 0)) = false) : dfInv q zs xs i (j + 1) := by
  have e : (zs.take (j + 1)).filter q = (zs.take j).filter q := by rw [take_snocP zs j hj, List.filter_append, List.filter_cons_of_neg (by rw [hq]; decide), List.filter_nil, List.append_nil]
  exact ⟨by rw [e]; exact h.1, by rw [e]; exact h.2.1, fun t h1 h2 => h.2.2 t (by omega) h2⟩
theorem dfInv.keep {q : Int × Int → Bool} {zs : List (Int × Int)} {xs : List Value} {i j : Nat} (h : dfInv q zs xs i j) (hl : xs.length = zs.length * 2) (hj : j < zs.length) (hq : q (zs.getD j (0, 0)) = true) :
    dfInv q zs ((xs.set (i * 2) (.int .i64 (zs.getD j (0, 0)).1)).set (i * 2 + 1) (.int .i64 (zs.getD j (0, 0)).2)) (i + 1) (j + 1) := by
  have hij := h.le
  have e : (zs.take (j + 1)).filter q = (zs.take j).filter q ++ [zs.getD j (0, 0)] := by rw [take_snocP zs j hj, List.filter_append, List.filter_cons_of_pos hq, List.filter_nil]
  refine ⟨by rw [e, List.length_append, ← h.1]; rfl, ?_, fun t h1 h2 => ?_⟩
  · rw [e, flat_append, ← h.2.1]
    apply List.ext_getElem?
    intro t
    by_cases h1 : t < i * 2
    · rw [List.getElem?_take_of_lt (by omega), List.getElem?_set_ne (by omega), List.getElem?_set_ne (by omega), List.getElem?_append_left (by rw [List.length_take]; omega), List.getElem?_take_of_lt h1]
    · rw [List.getElem?_append_right (by rw [List.length_take]; omega), List.length_take, Nat.min_eq_left (by omega)]
      by_cases h2 : t = i * 2
      · subst h2
        rw [List.getElem?_take_of_lt (by omega), List.getElem?_set_ne (by omega), List.getElem?_set_self (by omega)]
        simp [flat_cons]
      · by_cases h3 : t = i * 2 + 1
        · subst h3
          rw [List.getElem?_take_of_lt (by omega), List.getElem?_set_self (by simp; omega)]
          rw [show i * 2 + 1 - i * 2 = 1 by omega]
          simp [flat_cons]
        · rw [List.getElem?_eq_none (by simp; omega), List.getElem?_eq_none]
          rw [flat_length]; simp; omega
  · rw [List.getElem?_set_ne (by omega), List.getElem?_set_ne (by omega)]
    exact h.2.2 t (by omega) h2
theorem dfInv.start {q : Int × Int → Bool} {zs : List (Int × Int)} {k : Nat} (hk : k < zs.length) (ha : ∀ j, j < k → q (zs.getD j (0, 0)) = true) (hn : q (zs.getD k (0, 0)) = false) : dfInv q zs (flat zs) k (k + 1) := by
  have e : (zs.take k).filter q = zs.take k := by
    rw [List.filter_eq_self]
    intro x hx
    obtain ⟨j, hj, rfl⟩ := List.mem_iff_getElem.1 hx
    have hj' : j < k := by rw [List.length_take] at hj; omega
    have := ha j hj'
    rw [List.getElem_take]
    simpa [List.getD, List.getElem?_eq_getElem (Nat.lt_trans hj' hk)] using this
  have e2 : (zs.take (k + 1)).filter q = zs.take k := by rw [take_snocP zs k hk, List.filter_append, e, List.filter_cons_of_neg (by rw [hn]; decide), List.filter_nil, List.append_nil]
  refine ⟨by rw [e2, List.length_take]; omega, ?_, fun _ _ _ => rfl⟩
  rw [e2]
  conv => lhs; rw [← List.take_append_drop k zs, flat_append]
  rw [List.take_append_of_le_length (by rw [flat_length, List.length_take]; omega), List.take_of_length_le (by rw [flat_length, List.length_take]; omega)]
theorem idxP_cases (p : Int × Int → Bool) (zs : List (Int × Int)) : (idxP p zs = -1 ∧ ∀ j, j < zs.length → p (zs.getD j (0, 0)) = false) ∨ ∃ k : Nat, k < zs.length ∧ idxP p zs = k ∧ p (zs.getD k (0, 0)) = true ∧ ∀ j, j < k → p (zs.getD j (0, 0)) = false := by
  unfold idxP
  by_cases h : zs.findIdx p < zs.length
  · rw [if_pos h]
    obtain ⟨h1, h2⟩ := (List.findIdx_eq h).1 rfl
    refine .inr ⟨zs.findIdx p, h, rfl, by simpa [List.getD, List.getElem?_eq_getElem h] using h1, fun j hj => ?_⟩
    have := h2 j hj
    simpa [List.getD, List.getElem?_eq_getElem (Nat.lt_trans hj h)] using this
  · rw [if_neg h]
    rw [List.findIdx_lt_length] at h
    refine .inl ⟨rfl, fun j hj => ?_⟩
    cases hp : p (zs.getD j (0, 0))
    · rfl
    · exact absurd ⟨zs[j], List.getElem_mem hj, by simpa [List.getD, List.getElem?_eq_getElem hj] using hp⟩ h
theorem own_sl {w : World} {base size n : Nat} {e : TypeId} {v : Value} {xs : List Value} (h : w.ownsRow base e size v n xs) : ∃ a c, v = .slice a n c := by
  rcases h.2 with ⟨h1, h2⟩ | ⟨g, cap, cur, h1, _⟩
  · exact ⟨none, 0, by rw [h1, h2]⟩
  · exact ⟨_, _, h1⟩
end Go.Proofs.YtlnghfmcofmkjaaGreatDoor
