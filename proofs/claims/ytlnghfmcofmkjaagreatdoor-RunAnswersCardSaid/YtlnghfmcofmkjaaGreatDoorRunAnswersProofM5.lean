/- slices.IndexFunc, slices.ContainsFunc at []api.Spent; spent.Is: by contracts. Rows of pairs: plain lemmas. slices.Clone, slices.DeleteFunc at []api.Spent; spent.left: by contracts. Plain arithmetic: tags, bits. No program in sight. conn: Right by contract. -/
import Derived.Test.YtlnghfmcofmkjaaGreatDoorRunAnswersProofM2
import Derived.Test.YtlnghfmcofmkjaaGreatDoorObj
import Derived.Test.YtlnghfmcofmkjaaGreatDoorRunAnswersProofM4
import Derived.Handy
import Derived.Shelf.Abstract
import Derived.Test.YtlnghfmcofmkjaaGreatDoorRunAnswersProofM3
import Derived.Lib.SliceRun
import Derived.Lib.Walk
import Derived.Deep.QuietTactic
import Derived.BigQuiet
namespace Go.Proofs.YtlnghfmcofmkjaaGreatDoor
open Go.RowKit

/-- The cells of some pairs. -/
def PC (w : World) (b off : Nat) (zs : List (Int × Int)) : Prop := ∀ j, j < zs.length → w.cell? ⟨b, off + j * 2, none⟩ = some (.int .i64 (zs.getD j (0, 0)).1) ∧ w.cell? ⟨b, off + j * 2 + 1, none⟩ = some (.int .i64 (zs.getD j (0, 0)).2)
/-- A slice of pairs. -/
def PSl (w : World) (v : Value) (zs : List (Int × Int)) : Prop := zs.length ≤ 1000 ∧ ((zs = [] ∧ ∃ a c, v = .slice a 0 c) ∨ ∃ b off c, v = .slice (some ⟨b, off, none⟩) zs.length c ∧ zs.length ≤ c ∧ b < w.heap.size ∧ PC w b off zs)
theorem PC.below {w w' : World} {b off : Nat} {zs : List (Int × Int)} (h : PC w b off zs) (hb : b < w.heap.size) (hB : Below w.heap.size w w') : PC w' b off zs :=
  fun j hj => ⟨(hB.cell (p := ⟨b, off + j * 2, none⟩) hb).trans (h j hj).1, (hB.cell (p := ⟨b, off + j * 2 + 1, none⟩) hb).trans (h j hj).2⟩
theorem PSl.below {w w' : World} {v : Value} {zs : List (Int × Int)} (h : PSl w v zs) (hB : Below w.heap.size w w') : PSl w' v zs := by
  refine ⟨h.1, ?_⟩
  rcases h.2 with h | ⟨b, off, c, h1, h2, h3, h4⟩
  · exact .inl h
  · exact .inr ⟨b, off, c, h1, h2, Nat.lt_of_lt_of_le h3 hB.size, h4.below h3 hB⟩
/-- what is asked of a predicate: it leaves all that lay there -/
def PredB (g : Nat) (lb : Array Value) (p : Int × Int → Bool) (w : World) : Prop :=
  ∀ (W : World) (x : Int × Int), Below w.heap.size w W → Calls Tryz.prog g (#[.agg #[.int .i64 x.1, .int .i64 x.2]] ++ lb) W fun e w' => e = .returned (.bool (p x)) ∧ Below W.heap.size W w'
/-- where it first holds; below 0: nowhere -/
def idxP (p : Int × Int → Bool) (zs : List (Int × Int)) : Int := if zs.findIdx p < zs.length then (zs.findIdx p : Int) else -1
theorem idxP_hit {p : Int × Int → Bool} {zs : List (Int × Int)} {k : Nat} (hk : k < zs.length) (h : p (zs.getD k (0, 0)) = true) (hb : ∀ j, j < k → p (zs.getD j (0, 0)) = false) : idxP p zs = k := by
  have e : zs.findIdx p = k := by
    rw [List.findIdx_eq hk]
    refine ⟨by simpa [List.getD, List.getElem?_eq_getElem hk] using h, fun j hj => ?_⟩
    have := hb j hj
    simpa [List.getD, List.getElem?_eq_getElem (Nat.lt_trans hj hk)] using this
  unfold idxP
  rw [e, if_pos hk]
theorem idxP_miss {p : Int × Int → Bool} {zs : List (Int × Int)} (hb : ∀ j, j < zs.length → p (zs.getD j (0, 0)) = false) : idxP p zs = -1 := by
  unfold idxP
  rw [if_neg]
  rw [List.findIdx_lt_length]
  rintro ⟨x, hx, hp⟩
  obtain ⟨j, hj, rfl⟩ := List.mem_iff_getElem.1 hx
  have := hb j hj
  simp [List.getD, List.getElem?_eq_getElem hj, hp] at this
theorem idxP_any (p : Int × Int → Bool) (zs : List (Int × Int)) : decide (0 ≤ idxP p zs) = zs.any p := by
  unfold idxP
  by_cases h : zs.findIdx p < zs.length
  · rw [if_pos h]
    have := List.findIdx_lt_length.1 h
    rw [decide_eq_true (by omega)]
    symm; rw [List.any_eq_true]; exact this
  · rw [if_neg h]
    rw [List.findIdx_lt_length] at h
    symm
    rw [show decide ((0 : Int) ≤ -1) = false from rfl, List.any_eq_false]
    exact fun x hx hp => h ⟨x, hx, hp⟩
set_option maxHeartbeats 2000000 in
theorem spIndexFunc (p : Int × Int → Bool) (g : Nat) (lb : Array Value) (eg : ∀ args w, (callFunc g args).run Tryz.prog w = .ok (.enter g args) w) (v : Value) (zs : List (Int × Int)) (w : World) (hv : PSl w v zs) (hp : PredB g lb p w) :
    Calls Tryz.prog 168 #[v, .func (.func g) #[] lb] w fun e w' => e = .returned (.int .i64 (idxP p zs)) ∧ Below w.heap.size w w' := by
  obtain ⟨hl, ⟨rfl, a, c, rfl⟩ | ⟨b, off, c, rfl, hc, hb, hpc⟩⟩ := hv
  · go_enter Tryz.func168, Tryz.ntmps168
    go_wp2
    go_rounds 1
    go_ret
    exact ⟨rfl, Below.refl _ _⟩
  · obtain ⟨n, hn⟩ : ∃ n, n = zs.length := ⟨_, rfl⟩
    rw [← hn] at hl hc ⊢
    have Hn := hide hn
    have HPC := hide hpc
    have HP := hide hp
    clear hn hpc hp
    go_enter Tryz.func168, Tryz.ntmps168
    go_wp2_with fail
    go_loopw [5, 8] (fun _ i wr => ∃ k : Nat, i = .int .i64 (k : Int) ∧ k ≤ n ∧ Hid (∀ j, j < k → p (zs.getD j (0, 0)) = false) ∧ Below w.heap.size w wr) (fun _ i _ => 2000 - (intOf i).toNat)
    case atStart => exact ⟨0, rfl, by omega, hide (fun j hj => by omega), Below.refl _ _⟩
    case round =>
      obtain ⟨k, rfl, hk, hall, hbw⟩ := hrel
      by_cases hlt : k < n
      · have hc2 := HPC.out.below hb hbw k (by rw [← Hn.out]; exact hlt)
        obtain ⟨q0, q1⟩ := hc2
        have hcall := HP.out wr (zs.getD k (0, 0)) hbw
        obtain ⟨y, hy⟩ : ∃ y, y = zs.getD k (0, 0) := ⟨_, rfl⟩
        rw [← hy] at q0 q1 hcall
        have HY := hide hy
        clear hy
        obtain ⟨y1, y2⟩ := y
        simp only at q0 q1 hcall
        have HC := hide hcall
        clear hcall
        cases hq : p (y1, y2)
        · rw [hq] at HC
          have Hq := hide hq
          clear hq
          go_wp2_with fail
          refine HC.out.mono ?_
          rintro e w' ⟨rfl, hb'⟩
          go_wp2
          go_roundw
          case rel =>
            refine ⟨k + 1, by go_num, by omega, hide (fun j hj => ?_), hbw.trans (hb'.mono hbw.size)⟩
            by_cases e : j = k
            · rw [e, ← HY.out]; exact Hq.out
            · exact hall.out j (by omega)
          case measure => simp [intOf] <;> omega
        · rw [hq] at HC
          have Hq := hide hq
          clear hq
          go_wp2_with fail
          refine HC.out.mono ?_
          rintro e w' ⟨rfl, hb'⟩
          go_wp2
          go_ret
          exact ⟨by rw [idxP_hit (by rw [← Hn.out]; exact hlt) (by rw [← HY.out]; exact Hq.out) hall.out]; rfl, hbw.trans (hb'.mono hbw.size)⟩
      · obtain rfl : k = n := by omega
        go_wp2
        go_ret
        exact ⟨by rw [idxP_miss (by rw [← Hn.out]; exact hall.out)]; rfl, hbw⟩
theorem spContainsFunc (p : Int × Int → Bool) (g : Nat) (lb : Array Value) (eg : ∀ args w, (callFunc g args).run Tryz.prog w = .ok (.enter g args) w) (v : Value) (zs : List (Int × Int)) (w : World) (hv : PSl w v zs) (hp : PredB g lb p w) :
    Calls Tryz.prog 166 #[v, .func (.func g) #[] lb] w fun e w' => e = .returned (.bool (zs.any p)) ∧ Below w.heap.size w w' := by
  have C := hide (spIndexFunc p g lb eg v zs w hv hp)
  have HA := hide (idxP_any p zs)
  generalize idxP p zs = r at C HA
  clear hp hv
  go_enter Tryz.func166, Tryz.ntmps166
  go_wp2_with fail
  refine C.out.mono ?_
  rintro e w1 ⟨rfl, hb1⟩
  go_wp2
  go_ret
  exact ⟨retB HA.out, hb1⟩
/-- the closure of Is: is it that number? -/
theorem spIsPred (n : Int) (B : Nat) (w : World) (hB : B < w.heap.size) (hcell : w.cell? ⟨B, 0, none⟩ = some (.int .i64 n)) :
    PredB 167 #[.pointer (some ⟨B, 0, none⟩)] (fun x => x.1 == n) w := fun W x hb => by
  have hc : W.cell? ⟨B, 0, none⟩ = some (.int .i64 n) := (hb.cell (p := ⟨B, 0, none⟩) hB).trans hcell
  have hBW : B < W.heap.size := Nat.lt_of_lt_of_le hB hb.size
  have hne : B ≠ W.heap.size := by omega
  show Calls Tryz.prog 167 #[.agg #[.int .i64 x.1, .int .i64 x.2], .pointer (some ⟨B, 0, none⟩)] W _
  obtain ⟨x1, x2⟩ := x
  clear hcell
  go_enter Tryz.func167, Tryz.ntmps167
  go_wp2
  all_goals (go_ret; exact ⟨rfl, by go_grown⟩)
/-- is a number spent? -/
theorem spIs (n : Int) (v : Value) (zs : List (Int × Int)) (w : World) (hv : PSl w v zs) :
    Calls Tryz.prog 161 #[v, .int .i64 n] w fun e w' => e = .returned (.bool (zs.any (fun x => x.1 == n))) ∧ Below w.heap.size w w' := by
  have eg : ∀ args w, (callFunc 167 args).run Tryz.prog w = .ok (.enter 167 args) w := enters_of Tryz.func167 (by kernel_rfl) rfl
  have C := hide (spContainsFunc (fun x => x.1 == n) 167 #[.pointer (some ⟨w.heap.size, 0, none⟩)] eg v zs (w.alloc (.cells #[.int .i64 n] 3)) (hv.below ((Below.refl _ _).alloc (Nat.le_refl _) _)) (spIsPred n w.heap.size _ (by simp) (by simp)))
  clear hv
  generalize zs.any (fun x => x.1 == n) = r at C ⊢
  go_enter Tryz.func161, Tryz.ntmps161
  go_wp2_with fail
  refine C.out.mono ?_
  rintro e w1 ⟨rfl, hb1⟩
  go_wp2
  go_ret
  exact ⟨rfl, bel_a1 hb1⟩
end Go.Proofs.YtlnghfmcofmkjaaGreatDoor

namespace Go.Proofs.YtlnghfmcofmkjaaGreatDoor
open Go.RowKit

/-- the cells of some pairs, one behind the other -/
def flat (zs : List (Int × Int)) : List Value := zs.flatMap fun x => [.int .i64 x.1, .int .i64 x.2]
theorem flat_nil : flat [] = [] := rfl
theorem flat_cons (x : Int × Int) (zs : List (Int × Int)) : flat (x :: zs) = .int .i64 x.1 :: .int .i64 x.2 :: flat zs := rfl
theorem flat_append (a b : List (Int × Int)) : flat (a ++ b) = flat a ++ flat b := by simp [flat]
theorem flat_length (zs : List (Int × Int)) : (flat zs).length = zs.length * 2 := by
  induction zs with
  | nil => rfl
  | cons x l ih => rw [flat_cons]; simp [ih]; omega
theorem flat_get (zs : List (Int × Int)) : ∀ j, j < zs.length → (flat zs)[j * 2]? = some (.int .i64 (zs.getD j (0, 0)).1) ∧ (flat zs)[j * 2 + 1]? = some (.int .i64 (zs.getD j (0, 0)).2) := by
  induction zs with
  | nil => intro j hj; simp at hj
  | cons x l ih =>
    intro j hj
    cases j with
    | zero => simp [flat_cons]
    | succ j =>
      have := ih j (by simpa using hj)
      rw [flat_cons, show (j + 1) * 2 = j * 2 + 1 + 1 by omega]
      simpa using this
theorem flat_oneCell (zs : List (Int × Int)) : ∀ u ∈ flat zs, u.oneCell' = true := by
  intro u hu
  obtain ⟨x, _, hx⟩ := List.mem_flatMap.1 hu
  simp at hx
  rcases hx with rfl | rfl <;> rfl
theorem own_psl {w : World} {base : Nat} {e : TypeId} {v : Value} {zs : List (Int × Int)} (h : w.ownsRow base e 2 v zs.length (flat zs)) (hl : zs.length ≤ 1000) : PSl w v zs := by
  refine ⟨hl, ?_⟩
  rcases h.2 with ⟨rfl, h0⟩ | ⟨g, cap, cur, rfl, hb, hg, hnc, hcm, hcs, htk⟩
  · exact .inl ⟨List.eq_nil_of_length_eq_zero h0, none, 0, rfl⟩
  · refine .inr ⟨g, 0, cap, rfl, hnc, lt_of_block hg, fun j hj => ?_⟩
    have hf := flat_get zs j hj
    have hc := fun t ht => World.ownsRow.cellAt (w := w) (base := base) (e := e) (size := 2) (g := g) (n := zs.length) (cap := cap) (xs := flat zs) h t ht
    rw [Nat.zero_add]
    exact ⟨(hc _ (by omega)).trans hf.1, (hc _ (by omega)).trans hf.2⟩
theorem own_cut {w : World} {base g n cap i : Nat} {e : TypeId} {xs ys : List Value} (h : w.ownsRow base e 2 (.slice (some ⟨g, 0, none⟩) n cap) n xs) (hi : i ≤ n) (hy : xs.take (i * 2) = ys) : w.ownsRow base e 2 (.slice (some ⟨g, 0, none⟩) i cap) i ys := by
  rcases h.2 with ⟨h', _⟩ | ⟨g', cap', cur, h', hb, hg, hnc, hcm, hcs, htake⟩
  · simp at h'
  · simp only [Value.slice.injEq, Option.some.injEq, Addr.mk.injEq, and_true, true_and] at h'
    obtain ⟨rfl, rfl⟩ := h'
    have hl := h.1
    subst hy
    refine ⟨by rw [List.length_take, hl]; omega, .inr ⟨g, cap, cur, rfl, hb, hg, by omega, hcm, hcs, ?_⟩⟩
    rw [← htake, List.take_take]
    congr 1; omega
theorem own_setCells {base g n cap : Nat} {e : TypeId} : ∀ (vs : List Value) (o : Nat) (w : World) (xs : List Value), w.ownsRow base e 2 (.slice (some ⟨g, 0, none⟩) n cap) n xs → ∃ ys, (w.setCells g o vs).ownsRow base e 2 (.slice (some ⟨g, 0, none⟩) n cap) n ys ∧ (∀ t, t < o → ys[t]? = xs[t]?)
  | [], _, _, xs, h => ⟨xs, h, fun _ _ => rfl⟩
  | v :: r, o, w, xs, h => by
    obtain ⟨ys, h1, h2⟩ := own_setCells r (o + 1) _ _ (h.stored o v).1
    exact ⟨ys, h1, fun t ht => by rw [h2 t (by omega), List.getElem?_set_ne (by omega)]⟩
theorem below_setCells {B g : Nat} {a : World} (hg : B ≤ g) : ∀ (vs : List Value) (o : Nat) (w : World), Below B a w → Below B a (w.setCells g o vs)
  | [], _, _, h => h
  | v :: r, o, _, h => below_setCells hg r (o + 1) _ (h.setCell hg v)
/-- what DeleteFunc has behind j elements -/
def dfInv (q : Int × Int → Bool) (zs : List (Int × Int)) (xs : List Value) (i j : Nat) : Prop :=
  i = ((zs.take j).filter q).length ∧ xs.take (i * 2) = flat ((zs.take j).filter q) ∧ ∀ t, j * 2 ≤ t → t < zs.length * 2 → xs[t]? = (flat zs)[t]?
theorem take_snocP (zs : List (Int × Int)) (j : Nat) (hj : j < zs.length) : zs.take (j + 1) = zs.take j ++ [zs.getD j (0, 0)] := by
  rw [List.take_add_one, List.getElem?_eq_getElem hj]; simp [List.getD, List.getElem?_eq_getElem hj]
theorem dfInv.le {q : Int × Int → Bool} {zs : List (Int × Int)} {xs : List Value} {i j : Nat} (h : dfInv q zs xs i j) : i ≤ j := by
  rw [h.1]
  exact Nat.le_trans (List.length_filter_le _ _) (by simp; omega)
theorem dfInv.skip {q : Int × Int → Bool} {zs : List (Int × Int)} {xs : List Value} {i j : Nat} (h : dfInv q zs xs i j) (hj : j < zs.length) (hq : q (zs.getD j (0, 0)) = false) : dfInv q zs xs i (j + 1) := by
  have e : (zs.take (j + 1)).filter q = (zs.take j).filter q := by rw [take_snocP zs j hj, List.filter_append, List.filter_cons_of_neg (by rw [hq]; decide), List.filter_nil, List.append_nil]
  exact ⟨by rw [e]; exact h.1, by rw [e]; exact h.2.1, fun t h1 h2 => h.2.2 t (by omega) h2⟩
theorem dfInv.keep {q : Int × Int → Bool} {zs : List (Int × Int)} {xs : List Value} {i j : Nat} (h : dfInv q zs xs i j) (hl : xs.length = zs.length * 2) (hj : j < zs.length) (hq : q (zs.getD j (0, 0)) = true) :
    dfInv q zs ((xs.set (i * 2) (.int .i64 (zs.getD j (0, 0)).1)).set (i * 2 + 1) (.int .i64 (zs.getD j (0, 0)).2)) (i + 1) (j + 1) := by
  have hij := h.le
  have e : (zs.take (j + 1)).filter q = (zs.take j).filter q ++ [zs.getD j (0, 0)] := by rw [take_snocP zs j hj, List.filter_append, List.filter_cons_of_pos hq, List.filter_nil]
  refine ⟨by rw [e, List.length_append, ← h.1]; rfl, ?_, fun t h1 h2 => ?_⟩
  · rw [e, flat_append, ← h.2.1]
    apply List.ext_getElem?
    intro t
    by_cases h1 : t < i * 2
    · rw [List.getElem?_take_of_lt (by omega), List.getElem?_set_ne (by omega), List.getElem?_set_ne (by omega), List.getElem?_append_left (by rw [List.length_take]; omega), List.getElem?_take_of_lt h1]
    · rw [List.getElem?_append_right (by rw [List.length_take]; omega), List.length_take, Nat.min_eq_left (by omega)]
      by_cases h2 : t = i * 2
      · subst h2
        rw [List.getElem?_take_of_lt (by omega), List.getElem?_set_ne (by omega), List.getElem?_set_self (by omega)]
        simp [flat_cons]
      · by_cases h3 : t = i * 2 + 1
        · subst h3
          rw [List.getElem?_take_of_lt (by omega), List.getElem?_set_self (by simp; omega)]
          rw [show i * 2 + 1 - i * 2 = 1 by omega]
          simp [flat_cons]
        · rw [List.getElem?_eq_none (by simp; omega), List.getElem?_eq_none]
          rw [flat_length]; simp; omega
  · rw [List.getElem?_set_ne (by omega), List.getElem?_set_ne (by omega)]
    exact h.2.2 t (by omega) h2
theorem dfInv.start {q : Int × Int → Bool} {zs : List (Int × Int)} {k : Nat} (hk : k < zs.length) (ha : ∀ j, j < k → q (zs.getD j (0, 0)) = true) (hn : q (zs.getD k (0, 0)) = false) : dfInv q zs (flat zs) k (k + 1) := by
  have e : (zs.take k).filter q = zs.take k := by
    rw [List.filter_eq_self]
    intro x hx
    obtain ⟨j, hj, rfl⟩ := List.mem_iff_getElem.1 hx
    have hj' : j < k := by rw [List.length_take] at hj; omega
    have := ha j hj'
    rw [List.getElem_take]
    simpa [List.getD, List.getElem?_eq_getElem (Nat.lt_trans hj' hk)] using this
  have e2 : (zs.take (k + 1)).filter q = zs.take k := by rw [take_snocP zs k hk, List.filter_append, e, List.filter_cons_of_neg (by rw [hn]; decide), List.filter_nil, List.append_nil]
  refine ⟨by rw [e2, List.length_take]; omega, ?_, fun _ _ _ => rfl⟩
  rw [e2]
  conv => lhs; rw [← List.take_append_drop k zs, flat_append]
  rw [List.take_append_of_le_length (by rw [flat_length, List.length_take]; omega), List.take_of_length_le (by rw [flat_length, List.length_take]; omega)]
theorem idxP_cases (p : Int × Int → Bool) (zs : List (Int × Int)) : (idxP p zs = -1 ∧ ∀ j, j < zs.length → p (zs.getD j (0, 0)) = false) ∨ ∃ k : Nat, k < zs.length ∧ idxP p zs = k ∧ p (zs.getD k (0, 0)) = true ∧ ∀ j, j < k → p (zs.getD j (0, 0)) = false := by
  unfold idxP
  by_cases h : zs.findIdx p < zs.length
  · rw [if_pos h]
    obtain ⟨h1, h2⟩ := (List.findIdx_eq h).1 rfl
    refine .inr ⟨zs.findIdx p, h, rfl, by simpa [List.getD, List.getElem?_eq_getElem h] using h1, fun j hj => ?_⟩
    have := h2 j hj
    simpa [List.getD, List.getElem?_eq_getElem (Nat.lt_trans hj h)] using this
  · rw [if_neg h]
    rw [List.findIdx_lt_length] at h
    refine .inl ⟨rfl, fun j hj => ?_⟩
    cases hp : p (zs.getD j (0, 0))
    · rfl
    · exact absurd ⟨zs[j], List.getElem_mem hj, by simpa [List.getD, List.getElem?_eq_getElem hj] using hp⟩ h
theorem own_sl {w : World} {base size n : Nat} {e : TypeId} {v : Value} {xs : List Value} (h : w.ownsRow base e size v n xs) : ∃ a c, v = .slice a n c := by
  rcases h.2 with ⟨h1, h2⟩ | ⟨g, cap, cur, h1, _⟩
  · exact ⟨none, 0, by rw [h1, h2]⟩
  · exact ⟨_, _, h1⟩
end Go.Proofs.YtlnghfmcofmkjaaGreatDoor

namespace Go.Proofs.YtlnghfmcofmkjaaGreatDoor
open Go.RowKit

theorem Tryz.infoSp : (Tryz.prog.info? 173).map (fun i => (i.zero, i.size, i.bytes)) = some (some (.agg #[.int .i64 0, .int .i64 0]), 2, 16) := by kernel_rfl
theorem Tryz.zeroSp (w : World) : (zeroValue 173).run Tryz.prog w = .ok (.agg #[.int .i64 0, .int .i64 0]) w := by kernel_rfl

set_option maxHeartbeats 2000000 in
theorem spClone_some (ad : Addr) (c : Nat) (zs : List (Int × Int)) (w : World) (hl : zs.length ≤ 1000) (hc : ∀ j u, (flat zs)[j]? = some u → w.cell? (ad.add j) = some u) :
    Calls Tryz.prog 112 #[.slice (some ad) zs.length c] w fun e w' => ∃ v', e = .returned v' ∧ w'.ownsRow w.heap.size 173 2 v' zs.length (flat zs) ∧ Below w.heap.size w w' := by
  have q22 : ∀ (w : World) (a : Option Addr) (n c n' c' : Nat), (binOp .eql 58 (.slice a n c) (.slice none n' c')).run Tryz.prog w = .ok (.bool a.isNone) w := fun w a n c n' c' => Lib.run_eql_slice_nil w _ _ a n c n' c' Tryz.underlying58
  obtain ⟨i0, hi, hz0, hz1, hz2⟩ := info_parts Tryz.infoSp
  have A := hide hc
  have HL := hide (flat_length zs)
  have H1 := hide (flat_oneCell zs)
  obtain ⟨n, hn⟩ : ∃ n, n = zs.length := ⟨_, rfl⟩
  rw [← hn] at HL hl ⊢
  clear hc hn
  go_enter Tryz.func112, Tryz.ntmps112
  go_wp2_with (at_builtin; refine wpList_append_own _ rfl _ _ 58 rfl w.heap.size 173 i0 _ 2 16 Tryz.underlying58 hi hz0 hz1 hz2 rfl (by decide) _ _ _ rfl (World.ownsRow_made w #[] 0 (Nat.le_refl _) (Nat.zero_le _) (by simp)) ad n c (flat zs) rfl ?qc1 ?qc2 ?qc3 ?qc4 ?qc5 ?qc6 ?_)
  case qc1 => exact HL.out
  case qc2 =>
    intro j u hj
    exact Lib.cell?_alloc_some _ (A.out j u hj)
  case qc3 => exact H1.out
  case qc4 => unfold maxLen; omega
  case qc5 => omega
  case qc6 => simp
  intro v' w1 hown hgrow hnil
  go_wp2
  go_ret
  refine ⟨v', rfl, by simpa using hown, ?_⟩
  exact ((Below.refl _ w).alloc (Nat.le_refl _) _).grown hgrow (by simp) (by intro k hk; simp [Value.ownBlock] at hk; omega)
theorem spClone_none (n c : Nat) (w : World) :
    Calls Tryz.prog 112 #[.slice none n c] w fun e w' => e = .returned (.slice none 0 0) ∧ w = w' := by
  have q22 : ∀ (w : World) (a : Option Addr) (n c n' c' : Nat), (binOp .eql 58 (.slice a n c) (.slice none n' c')).run Tryz.prog w = .ok (.bool a.isNone) w := fun w a n c n' c' => Lib.run_eql_slice_nil w _ _ a n c n' c' Tryz.underlying58
  go_enter Tryz.func112, Tryz.ntmps112
  go_wp2
  go_ret
  exact ⟨rfl, rfl⟩
theorem spClone (v : Value) (zs : List (Int × Int)) (w : World) (hv : PSl w v zs) :
    Calls Tryz.prog 112 #[v] w fun e w' => ∃ v', e = .returned v' ∧ w'.ownsRow w.heap.size 173 2 v' zs.length (flat zs) ∧ Below w.heap.size w w' := by
  obtain ⟨hl, ⟨rfl, a, c, rfl⟩ | ⟨b, off, c, rfl, hc, hb, hpc⟩⟩ := hv
  · cases a with
    | none => exact (spClone_none 0 c w).mono fun e w' ⟨he, hw⟩ => ⟨_, he, by rw [← hw]; exact World.ownsRow_nil _ _ _ _, by rw [← hw]; exact Below.refl _ _⟩
    | some ad => exact spClone_some ad c [] w (by simp) (fun j u hj => by simp [flat] at hj)
  · refine spClone_some ⟨b, off, none⟩ c zs w hl (fun j u hj => ?_)
    have hj2 : j < zs.length * 2 := by
      rcases Nat.lt_or_ge j (zs.length * 2) with h | h
      · exact h
      · rw [List.getElem?_eq_none (by rw [flat_length]; exact h)] at hj; cases hj
    have hf := flat_get zs (j / 2) (by omega)
    have hp := hpc (j / 2) (by omega)
    rw [Addr.add_lit]
    rcases Nat.mod_two_eq_zero_or_one j with h | h
    · have e : j = j / 2 * 2 := by omega
      rw [e] at hj ⊢
      rw [← hj, hf.1]; exact hp.1
    · have e : j = j / 2 * 2 + 1 := by omega
      rw [e] at hj ⊢
      rw [← hj, hf.2, ← Nat.add_assoc]; exact hp.2
/-- what is asked of a predicate while the row turns -/
def PredO (B : Nat) (g : Nat) (lb : Array Value) (p : Int × Int → Bool) (w : World) : Prop :=
  ∀ (W : World) (x : Int × Int), Below B w W → Calls Tryz.prog g (#[.agg #[.int .i64 x.1, .int .i64 x.2]] ++ lb) W fun e w' => e = .returned (.bool (p x)) ∧ Below W.heap.size W w'
theorem run_clear_pairs (w : World) (t e ty : TypeId) (ht : Tryz.prog.underlying t = some (.slice e)) (hv : ∀ w, (zeroValue e).run Tryz.prog w = .ok (.agg #[.int .i64 0, .int .i64 0]) w) (b o n c : Nat) (hn : 0 < n)
    (hc : ∀ j, j < n * 2 → (w.cell? ⟨b, o + j, none⟩).isSome = true) (hf : ∀ j, j < n * 2 → w.frozen? ⟨b, o + j, none⟩ = false) :
    (Builtin.clear_ #[t] ty #[.slice (some ⟨b, o, none⟩) n c]).run Tryz.prog w = .ok (.tuple #[]) (w.setCells b o (List.replicate (n * 2) (.int .i64 0))) := by
  have hzc : (Builtin.zeroCells (Value.cells (.agg #[.int .i64 0, .int .i64 0])) n).toList = List.replicate (n * 2) (Value.int .i64 0) := by
    simp [Builtin.zeroCells, Value.cells]
    apply List.ext_getElem
    · simp
    · intro i h1 h2
      have : i % 2 = 0 ∨ i % 2 = 1 := by omega
      rcases this with h | h <;> simp [h]
  have hst := run_storeCells_cells (P := Tryz.prog) b o (List.replicate (n * 2) (Value.int .i64 0)) 0 w (by simpa using hc) (by simpa using hf) (by intro v hv'; rw [List.eq_of_mem_replicate hv']; rfl)
  simp only [Nat.add_zero] at hst
  obtain ⟨m, rfl⟩ : ∃ m, n = m + 1 := ⟨n - 1, by omega⟩
  simp [Builtin.clear_, run_underlying ht, hv, hzc, hst]
end Go.Proofs.YtlnghfmcofmkjaaGreatDoor

namespace Go.Proofs.YtlnghfmcofmkjaaGreatDoor
def tstep (o n : Int) : Int := (4099 * o + n + 1) % 999983
def tfold (o : Int) (l : List Int) : Int := l.foldl tstep o
def tagOf (key : Int) (l : List Int) : Int := (4099 * tfold key l + key) % 999983

theorem tstep_in (o n : Int) : 0 ≤ tstep o n ∧ tstep o n < 999983 := by unfold tstep; omega
theorem tfold_in (o : Int) (l : List Int) (h : 0 ≤ o ∧ o < 999983) : 0 ≤ tfold o l ∧ tfold o l < 999983 := by
  induction l generalizing o with
  | nil => exact h
  | cons n l ih => exact ih _ (tstep_in o n)
theorem tagOf_in (key : Int) (l : List Int) : 0 ≤ tagOf key l ∧ tagOf key l < 999983 := by unfold tagOf; omega
theorem tfold_snoc (o : Int) (l : List Int) (n : Int) : tfold o (l ++ [n]) = tstep (tfold o l) n := by simp [tfold]
theorem tstep_inj_left (a b n : Int) (ha : 0 ≤ a ∧ a < 999983) (hb : 0 ≤ b ∧ b < 999983) (h : tstep a n = tstep b n) : a = b := by
  unfold tstep at h; omega
theorem tstep_inj_right (o a b : Int) (ha : 0 ≤ a ∧ a < 999983) (hb : 0 ≤ b ∧ b < 999983) (h : tstep o a = tstep o b) : a = b := by
  unfold tstep at h; omega
theorem tfold_inj (l : List Int) : ∀ (a b : Int) (_ : 0 ≤ a ∧ a < 999983) (_ : 0 ≤ b ∧ b < 999983) (_ : tfold a l = tfold b l), a = b := by
  induction l with
  | nil => intro a b _ _ h; exact h
  | cons n l ih => intro a b ha hb h; exact tstep_inj_left a b n ha hb (ih _ _ (tstep_in _ _) (tstep_in _ _) h)
theorem tagOf_fold_inj (key a b : Int) (ha : 0 ≤ a ∧ a < 999983) (hb : 0 ≤ b ∧ b < 999983) (h : (4099 * a + key) % 999983 = (4099 * b + key) % 999983) : a = b := by omega
theorem tagOf_key (a b : Int) (ha : 0 ≤ a ∧ a < 999983) (hb : 0 ≤ b ∧ b < 999983) (h : (4099 * a + a) % 999983 = (4099 * b + b) % 999983) : a = b := by omega
theorem tfold_append (o : Int) (l m : List Int) : tfold o (l ++ m) = tfold (tfold o l) m := by simp [tfold]
/-- same but for one -/
theorem tagOf_set (key : Int) (l : List Int) (i : Nat) (n : Int) (hi : i < l.length) (hk : 0 ≤ key ∧ key < 999983) (hl : ∀ x ∈ l, 0 ≤ x ∧ x < 999983) (hn : 0 ≤ n ∧ n < 999983) :
    (tagOf key l = tagOf key (l.set i n)) ↔ (n = l[i]) := by
  have e1 : l = l.take i ++ (l[i] :: l.drop (i + 1)) := by simp
  have e2 : l.set i n = l.take i ++ (n :: l.drop (i + 1)) := by rw [List.set_eq_take_append_cons_drop]; simp [hi]
  have hli := hl l[i] (List.getElem_mem hi)
  constructor
  · intro h
    unfold tagOf at h
    have h1 := tagOf_fold_inj key _ _ (tfold_in _ _ hk) (tfold_in _ _ hk) h
    rw [e2] at h1
    have h1' : tfold key (l.take i ++ (l[i] :: l.drop (i + 1))) = tfold key (l.take i ++ (n :: l.drop (i + 1))) := by rw [← e1]; exact h1
    rw [tfold_append, tfold_append] at h1'
    have h2 := tfold_inj (l.drop (i + 1)) (tstep (tfold key (l.take i)) l[i]) (tstep (tfold key (l.take i)) n) (tstep_in _ _) (tstep_in _ _) h1'
    exact (tstep_inj_right _ _ _ hli hn h2).symm
  · intro h
    rw [h]
    simp
def xn (n : Nat) : Nat := n ^^^ 21845
theorem xn_lt (n : Nat) (h : n < 65536) : xn n < 65536 := by
  unfold xn; exact Nat.xor_lt_two_pow (n := 16) h (by decide)
theorem xn_xn (n : Nat) : xn (xn n) = n := by unfold xn; rw [Nat.xor_assoc, Nat.xor_self, Nat.xor_zero]
theorem xn_inj (a b : Nat) (h : xn a = xn b) : a = b := by rw [← xn_xn a, h, xn_xn]
/-- the number whose first n bits are f -/
def sumBits (f : Nat → Bool) : Nat → Nat
  | 0 => 0
  | n + 1 => sumBits f n + if f n then 2 ^ n else 0
theorem sumBits_lt (f : Nat → Bool) (n : Nat) : sumBits f n < 2 ^ n := by
  induction n with
  | zero => simp [sumBits]
  | succ n ih => simp only [sumBits]; split <;> omega
theorem testBit_sumBits (f : Nat → Bool) (n i : Nat) : (sumBits f n).testBit i = (decide (i < n) && f i) := by
  induction n with
  | zero => simp [sumBits]
  | succ n ih =>
    simp only [sumBits]
    have hlt := sumBits_lt f n
    by_cases hf : f n = true
    · rw [if_pos hf, Nat.add_comm]
      rcases Nat.lt_trichotomy i n with h | h | h
      · rw [Nat.testBit_two_pow_add_gt h, ih]; simp [h, Nat.lt_succ_of_lt h]
      · subst h; rw [Nat.testBit_two_pow_add_eq, ih]; simp [hf]
      · rw [show (decide (i < n + 1)) = false by simp; omega]
        simp only [Bool.false_and]
        apply Nat.testBit_lt_two_pow
        have : 2 ^ (n + 1) ≤ 2 ^ i := Nat.pow_le_pow_right (by decide) (by omega)
        omega
    · rw [if_neg hf, Nat.add_zero, ih]
      simp only [Bool.not_eq_true] at hf
      rcases Nat.lt_trichotomy i n with h | h | h
      · simp [h, Nat.lt_succ_of_lt h]
      · subst h; simp [hf]
      · rw [show (decide (i < n + 1)) = false by simp; omega, show (decide (i < n)) = false by simp; omega]
/-- k times halved -/
def halves : Nat → Nat → Nat
  | n, 0 => n
  | n, k + 1 => halves (n / 2) k
theorem halves_eq (n k : Nat) : halves n k = n / 2 ^ k := by
  induction k generalizing n with
  | zero => simp [halves]
  | succ k ih => simp only [halves, ih]; rw [Nat.div_div_eq_div_mul, Nat.pow_succ, Nat.mul_comm]
theorem bit_eq (n k : Nat) : (n / 2 ^ k % 2 == 1) = n.testBit k := by
  rw [Nat.testBit_eq_decide_div_mod_eq]; rfl
theorem turned (n : Nat) (h : n < 65536) : sumBits (fun k => n.testBit k != (k % 2 == 0)) 16 = n ^^^ 21845 := by
  apply Nat.eq_of_testBit_eq
  intro i
  rw [testBit_sumBits, Nat.testBit_xor]
  by_cases hi : i < 16
  · simp only [hi, decide_true, Bool.true_and]
    congr 1
    have : ∀ i < 16, (i % 2 == 0) = Nat.testBit 21845 i := by decide
    exact this i hi
  · have h1 : n.testBit i = false := Nat.testBit_lt_two_pow (Nat.lt_of_lt_of_le h (Nat.pow_le_pow_right (by decide : 2 > 0) (show 16 ≤ i by omega)))
    have h2 : Nat.testBit 21845 i = false := Nat.testBit_lt_two_pow (Nat.lt_of_lt_of_le (by decide : 21845 < 2 ^ 16) (Nat.pow_le_pow_right (by decide : 2 > 0) (show 16 ≤ i by omega)))
    simp [hi, h1, h2]
/-- a number comes that is greater -/
theorem win_up (B k : Nat) : sumBits (fun j => (decide (k ≤ j) && B.testBit (j - k)) || j == 0) 32 = 1 ||| ((B <<< k) &&& 4294967295) := by
  apply Nat.eq_of_testBit_eq
  intro i
  have e : (4294967295 : Nat) = 2 ^ 32 - 1 := by decide
  rw [testBit_sumBits, Nat.testBit_or, Nat.testBit_and, Nat.testBit_shiftLeft, e, Nat.testBit_two_pow_sub_one]
  have h1 : Nat.testBit 1 i = (i == 0) := by
    cases i with
    | zero => rfl
    | succ i => rw [show (1 : Nat) = 2 ^ 0 from rfl, Nat.testBit_two_pow]; simp
  rw [h1]
  by_cases hi : i < 32
  · simp only [hi, decide_true, Bool.true_and, Bool.and_true, ge_iff_le]
    rw [Bool.or_comm]
  · have : (i == 0) = false := by simp; omega
    simp [hi, this]
theorem win_far : sumBits (fun j => j == 0) 32 = 1 := by decide
theorem win_back (B k : Nat) (hB : B < 4294967296) (hk : k < 32) : sumBits (fun j => B.testBit j || j == k) 32 = B ||| (1 <<< k) := by
  apply Nat.eq_of_testBit_eq
  intro i
  rw [testBit_sumBits, Nat.testBit_or, Nat.one_shiftLeft, Nat.testBit_two_pow]
  by_cases hi : i < 32
  · simp only [hi, decide_true, Bool.true_and]
    by_cases h : i = k
    · subst h; simp
    · have h2 : ¬ k = i := fun e => h e.symm
      simp [h, h2]
  · have h1 : B.testBit i = false := Nat.testBit_lt_two_pow (Nat.lt_of_lt_of_le (show B < 2 ^ 32 by simpa using hB) (Nat.pow_le_pow_right (by decide : 2 > 0) (show 32 ≤ i by omega)))
    have h2 : ¬ k = i := by omega
    simp [hi, h1, h2]
end Go.Proofs.YtlnghfmcofmkjaaGreatDoor

namespace Go.Proofs.YtlnghfmcofmkjaaGreatDoor
open Go.RowKit

/-- is a conn right? -/
def connB (s n : Int) : Bool := decide (0 ≤ s ∧ s < 16 ∧ 0 ≤ n ∧ n < 4096)
theorem connRight (s n : Int) (w : World) : Calls Tryz.prog 147 #[.agg #[.int .i64 s, .int .i64 n]] w fun e w' => e = .returned (.bool (connB s n)) ∧ Below w.heap.size w w' := by
  have hc : s < 0 ∨ (0 ≤ s ∧ 16 ≤ s) ∨ (0 ≤ s ∧ s < 16 ∧ n < 0) ∨ (0 ≤ s ∧ s < 16 ∧ 0 ≤ n ∧ 4096 ≤ n) ∨ (0 ≤ s ∧ s < 16 ∧ 0 ≤ n ∧ n < 4096) := by omega
  rcases hc with h | ⟨h1, h2⟩ | ⟨h1, h2, h3⟩ | ⟨h1, h2, h3, h4⟩ | ⟨h1, h2, h3, h4⟩
  all_goals
    go_enter Tryz.func147, Tryz.ntmps147
    go_wp2
    go_ret
    exact ⟨retB (by first | exact (decide_eq_true (by omega)).symm | exact (decide_eq_false (by omega)).symm | (simp only [connB, decide_eq_decide]; omega)), by go_grown⟩

theorem connRight_eq {s n : Int} {v : Bool} (h : connB s n = v) (w : World) : Calls Tryz.prog 147 #[.agg #[.int .i64 s, .int .i64 n]] w fun e w' => e = .returned (.bool v) ∧ Below w.heap.size w w' := by
  have g := connRight s n w
  rwa [h] at g

end Go.Proofs.YtlnghfmcofmkjaaGreatDoor
