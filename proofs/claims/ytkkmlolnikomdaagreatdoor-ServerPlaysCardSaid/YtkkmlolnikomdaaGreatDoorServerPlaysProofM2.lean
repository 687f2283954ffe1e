/- A row of the call's own that holds integers. Rows of pairs: plain lemmas. -/
import Derived.Test.YtkkmlolnikomdaaGreatDoorServerPlaysProofM0
import Derived.Test.YtkkmlolnikomdaaGreatDoorOpen
import Derived.Laws.OwnMore
import Derived.OwnWalk
import Derived.Maps.AppendAt
import Derived.Lib.SliceRun
namespace Go.Proofs.YtkkmlolnikomdaaGreatDoor
open Go.RowKit

theorem Tryz.infoInt : (Tryz.prog.info? 3).map (fun i => (i.zero, i.size, i.bytes)) = some (some (.int .i64 0), 1, 8) := by kernel_rfl

theorem getD_map_int (zs : List Int) (i : Nat) (h : i < zs.length) : (zs.map (Value.int .i64))[i]? = some (.int .i64 (zs.getD i 0)) := by
  simp [List.getElem?_map, List.getElem?_eq_getElem h, List.getD]
/-- the row's cells as they are read -/
theorem own_cells {w : World} {base : Nat} {e : TypeId} {g n cap : Nat} {zs : List Int} (h : w.ownsRow base e 1 (.slice (some ⟨g, 0, none⟩) n cap) n (zs.map (Value.int .i64))) :
    zs.length = n ∧ ∀ i, i < n → w.cell? ⟨g, 0 + i, none⟩ = some (.int .i64 (zs.getD i 0)) := by
  have hl : zs.length = n := by have := h.1; simpa using this
  exact ⟨hl, fun i hi => by rw [Nat.zero_add, h.cellAt i (by omega), getD_map_int zs i (by omega)]⟩
theorem own_introw {w : World} {base : Nat} {e : TypeId} {v : Value} {n : Nat} {zs : List Int} (h : w.ownsRow base e 1 v n (zs.map (Value.int .i64))) (hw : ∀ z ∈ zs, (Lit.int .i64 z).wf = true) :
    ∃ a c, v = .slice a n c ∧ n ≤ c ∧ c ≤ maxLen ∧ IntRow w a n zs := by
  have hl : zs.length = n := by have := h.1; simpa using this
  rcases h.2 with ⟨rfl, rfl⟩ | ⟨g, cap, cur, rfl, _, hg, hnc, hcm, _, _⟩
  · exact ⟨none, 0, rfl, Nat.le_refl _, by simp [maxLen], hl, by simp [maxLen], hw, .inl rfl⟩
  · refine ⟨some ⟨g, 0, none⟩, cap, rfl, hnc, hcm, hl, Nat.le_trans hnc hcm, hw, .inr ⟨g, 0, rfl, lt_of_block hg, fun i j hi hj => ?_⟩⟩
    have := (own_cells h).2 i hi
    obtain rfl : j = 0 := by omega
    simpa using this
theorem set_map_int (zs : List Int) (k : Nat) (n : Int) : (zs.map (Value.int .i64)).set k (.int .i64 n) = (zs.set k n).map (Value.int .i64) := by rw [List.map_set]
theorem ints_oneCell (zs : List Int) : ∀ u ∈ zs.map (Value.int .i64), u.oneCell' = true := by
  intro u hu
  obtain ⟨z, _, rfl⟩ := List.mem_map.1 hu
  rfl
theorem own_form {w : World} {base size n : Nat} {e : TypeId} {v : Value} {xs : List Value} (h : w.ownsRow base e size v n xs) (hn : 0 < n) : ∃ g cap, v = .slice (some ⟨g, 0, none⟩) n cap ∧ base ≤ g ∧ g < w.heap.size ∧ n ≤ cap ∧ cap ≤ maxLen := by
  rcases h.2 with ⟨_, h0⟩ | ⟨g, cap, cur, hv, hb, hg, hnc, hcm, _, _⟩
  · omega
  · exact ⟨g, cap, hv, hb, lt_of_block hg, hnc, hcm⟩
theorem own_below {w w' : World} {base size n : Nat} {e : TypeId} {v : Value} {xs : List Value} (h : w.ownsRow base e size v n xs) (hb : Below w.heap.size w w') : w'.ownsRow base e size v n xs :=
  h.kept (row := none) ⟨hb.os, hb.tape, hb.output, hb.size, fun k hk _ => hb.block k hk⟩ (by cases v.ownBlock <;> simp)
theorem own_kept {S : List Nat} {w w' : World} {base size n : Nat} {e : TypeId} {v : Value} {xs : List Value} (h : w.ownsRow base e size v n xs) (hk : Kept S w w') (hS : ∀ x, x ∈ S → x < base) : w'.ownsRow base e size v n xs := by
  refine ⟨h.1, ?_⟩
  rcases h.2 with h2 | ⟨g, cap, cur, h1, h2, h3, h4⟩
  · exact .inl h2
  · exact .inr ⟨g, cap, cur, h1, h2, (hk.block g (lt_of_block h3) (fun hx => by have := hS g hx; omega)).trans h3, h4⟩
theorem own_slice {w : World} {base n : Nat} {e : TypeId} {v : Value} {zs : List Int} (h : w.ownsRow base e 1 v n (zs.map (Value.int .i64))) :
    ∃ a c, v = .slice a n c ∧ n ≤ c ∧ c ≤ maxLen ∧ (n = 0 ∨ ∃ g, a = some ⟨g, 0, none⟩ ∧ base ≤ g ∧ g < w.heap.size ∧ ∀ i, i < n → w.cell? ⟨g, i, none⟩ = some (.int .i64 (zs.getD i 0))) := by
  rcases h.2 with ⟨rfl, rfl⟩ | ⟨g, cap, cur, rfl, hb, hg, hnc, hcm, _, _⟩
  · exact ⟨none, 0, rfl, Nat.le_refl _, by simp [maxLen], .inl rfl⟩
  · refine ⟨some ⟨g, 0, none⟩, cap, rfl, hnc, hcm, .inr ⟨g, rfl, hb, lt_of_block hg, fun i hi => ?_⟩⟩
    have := (own_cells h).2 i hi
    simpa using this
theorem grown_obj {w w' : World} {row : Option Nat} {b : Nat} {t : TypeId} {cs : List Value} (hg : w.grownBy w' row) (ho : ObjAt w b t cs) (hn : ∀ k, row = some k → k ≠ b) : ObjAt w' b t cs :=
  (hg.block b ho.lt (fun e => hn b e.symm rfl)).trans ho
theorem grown_below {B : Nat} {a w w' : World} {row : Option Nat} (h : Below B a w) (hg : w.grownBy w' row) (hr : ∀ k, row = some k → B ≤ k) (hB : B ≤ w.heap.size) : Below B a w' :=
  ⟨hg.os.trans h.os, hg.tape.trans h.tape, hg.output.trans h.output, Nat.le_trans h.size hg.size, fun k hk => (hg.block k (Nat.lt_of_lt_of_le hk hB) (fun e => by have := hr k e.symm; omega)).trans (h.block k hk)⟩
theorem own_blk {w : World} {base size n : Nat} {e : TypeId} {v : Value} {xs : List Value} (h : w.ownsRow base e size v n xs) : ∀ k, v.ownBlock = some k → base ≤ k := fun k hk => (h.lt k hk).1
end Go.Proofs.YtkkmlolnikomdaaGreatDoor

namespace Go.Proofs.YtkkmlolnikomdaaGreatDoor
open Go.RowKit

/-- the cells of some pairs, one behind the other -/
def flat (zs : List (Int × Int)) : List Value := zs.flatMap fun x => [.int .i64 x.1, .int .i64 x.2]
theorem flat_nil : flat [] = [] := rfl
theorem flat_cons (x : Int × Int) (zs : List (Int × Int)) : flat (x :: zs) = .int .i64 x.1 :: .int .i64 x.2 :: flat zs := rfl
theorem flat_append (a b : List (Int × Int)) : flat (a ++ b) = flat a ++ flat b := by simp [flat]
theorem flat_length (zs : List (Int × Int)) : (flat zs).length = zs.length * 2 := by
  induction zs with
  | nil => rfl
  | cons x l ih => rw [flat_cons]; simp [ih]; omega
theorem flat_get (zs : List (Int × Int)) : ∀ j, j < zs.length → (flat zs)[j * 2]? = some (.int .i64 (zs.getD j (0, 0)).1) ∧ (flat zs)[j * 2 + 1]? = some (.int .i64 (zs.getD j (0, 0)).2) := by
  induction zs with
  | nil => intro j hj; simp at hj
  | cons x l ih =>
    intro j hj
    cases j with
    | zero => simp [flat_cons]
    | succ j =>
      have := ih j (by simpa using hj)
      rw [flat_cons, show (j + 1) * 2 = j * 2 + 1 + 1 by omega]
      simpa using this
theorem flat_oneCell (zs : List (Int × Int)) : ∀ u ∈ flat zs, u.oneCell' = true := by
  intro u hu
  obtain ⟨x, _, hx⟩ := List.mem_flatMap.1 hu
  simp at hx
  rcases hx with rfl | rfl <;> rfl
theorem own_psl {w : World} {base : Nat} {e : TypeId} {v : Value} {zs : List (Int × Int)} (h : w.ownsRow base e 2 v zs.length (flat zs)) (hl : zs.length ≤ 1000) : PSl w v zs := by
  refine ⟨hl, ?_⟩
  rcases h.2 with ⟨rfl, h0⟩ | ⟨g, cap, cur, rfl, hb, hg, hnc, hcm, hcs, htk⟩
  · exact .inl ⟨List.eq_nil_of_length_eq_zero h0, none, 0, rfl⟩
  · refine .inr ⟨g, 0, cap, rfl, hnc, lt_of_block hg, fun j hj => ?_⟩
    have hf := flat_get zs j hj
    have hc := fun t ht => World.ownsRow.cellAt (w := w) (base := base) (e := e) (size := 2) (g := g) (n := zs.length) (cap := cap) (xs := flat zs) h t ht
    rw [Nat.zero_add]
    exact ⟨(hc _ (by omega)).trans hf.1, (hc _ (by omega)).trans hf.2⟩
theorem own_cut {w : World} {base g n cap i : Nat} {e : TypeId} {xs ys : List Value} (h : w.ownsRow base e 2 (.slice (some ⟨g, 0, none⟩) n cap) n xs) (hi : i ≤ n) (hy : xs.take (i * 2) = ys) : w.ownsRow base e 2 (.slice (some ⟨g, 0, none⟩) i cap) i ys := by
  rcases h.2 with ⟨h', _⟩ | ⟨g', cap', cur, h', hb, hg, hnc, hcm, hcs, htake⟩
  · simp at h'
  · simp only [Value.slice.injEq, Option.some.injEq, Addr.mk.injEq, and_true, true_and] at h'
    obtain ⟨rfl, rfl⟩ := h'
    have hl := h.1
    subst hy
    refine ⟨by rw [List.length_take, hl]; omega, .inr ⟨g, cap, cur, rfl, hb, hg, by omega, hcm, hcs, ?_⟩⟩
    rw [← htake, List.take_take]
    congr 1; omega
theorem own_setCells {base g n cap : Nat} {e : TypeId} : ∀ (vs : List Value) (o : Nat) (w : World) (xs : List Value), w.ownsRow base e 2 (.slice (some ⟨g, 0, none⟩) n cap) n xs → ∃ ys, (w.setCells g o vs).ownsRow base e 2 (.slice (some ⟨g, 0, none⟩) n cap) n ys ∧ (∀ t, t < o → ys[t]? = xs[t]?)
  | [], _, _, xs, h => ⟨xs, h, fun _ _ => rfl⟩
  | v :: r, o, w, xs, h => by
    obtain ⟨ys, h1, h2⟩ := own_setCells r (o + 1) _ _ (h.stored o v).1
    exact ⟨ys, h1, fun t ht => by rw [h2 t (by omega), List.getElem?_set_ne (by omega)]⟩
theorem below_setCells {B g : Nat} {a : World} (hg : B ≤ g) : ∀ (vs : List Value) (o : Nat) (w : World), Below B a w → Below B a (w.setCells g o vs)
  | [], _, _, h => h
  | v :: r, o, _, h => below_setCells hg r (o + 1) _ (h.setCell hg v)
/-- what DeleteFunc has behind j elements -/
def dfInv (q : Int × Int → Bool) (zs : List (Int × Int)) (xs : List Value) (i j : Nat) : Prop :=
  i = ((zs.take j).filter q).length ∧ xs.take (i * 2) = flat ((zs.take j).filter q) ∧ ∀ t, j * 2 ≤ t → t < zs.length * 2 → xs[t]? = (flat zs)[t]?
theorem take_snocP (zs : List (Int × Int)) (j : Nat) (hj : j < zs.length) : zs.take (j + 1) = zs.take j ++ [zs.getD j (0, 0)] := by
  rw [List.take_add_one, List.getElem?_eq_getElem hj]; simp [List.getD, List.getElem?_eq_getElem hj]
theorem dfInv.le {q : Int × Int → Bool} {zs : List (Int × Int)} {xs : List Value} {i j : Nat} (h : dfInv q zs xs i j) : i ≤ j := by
  rw [h.1]
  exact Nat.le_trans (List.length_filter_le _ _) (by simp; omega)
theorem dfInv.skip {q : Int × Int → Bool} {zs : List (Int × Int)} {xs : List Value} {i j : Nat} (h : dfInv q zs xs i j) (hj : j < zs.length) (hq : q (zs.getD j (0, 0)) = false) : dfInv q zs xs i (j + 1) := by
  have e : (zs.take (j + 1)).filter q = (zs.take j).filter q := by rw [take_snocP zs j hj, List.filter_append, List.filter_cons_of_neg (by rw [hq]; decide), List.filter_nil, List.append_nil]
  exact ⟨by rw [e]; exact h.1, by rw [e]; exact h.2.1, fun t h1 h2 => h.2.2 t (by omega) h2⟩
theorem dfInv.keep {q : Int × Int → Bool} {zs : List (Int × Int)} {xs : List Value} {i j : Nat} (h : dfInv q zs xs i j) (hl : xs.length = zs.length * 2) (hj : j < zs.length) (hq : q (zs.getD j (0, 0)) = true) :
    dfInv q zs ((xs.set (i * 2) (.int .i64 (zs.getD j (0, 0)).1)).set (i * 2 + 1) (.int .i64 (zs.getD j (0, 0)).2)) (i + 1) (j + 1) := by
  have hij := h.le
  have e : (zs.take (j + 1)).filter q = (zs.take j).filter q ++ [zs.getD j (0, 0)] := by rw [take_snocP zs j hj, List.filter_append, List.filter_cons_of_pos hq, List.filter_nil]
  refine ⟨by rw [e, List.length_append, ← h.1]; rfl, ?_, fun t h1 h2 => ?_⟩
  · rw [e, flat_append, ← h.2.1]
    apply List.ext_getElem?
    intro t
    by_cases h1 : t < i * 2
    · rw [List.getElem?_take_of_lt (by omega), List.getElem?_set_ne (by omega), List.getElem?_set_ne (by omega), List.getElem?_append_left (by rw [List.length_take]; omega), List.getElem?_take_of_lt h1]
    · rw [List.getElem?_append_right (by rw [List.length_take]; omega), List.length_take, Nat.min_eq_left (by omega)]
      by_cases h2 : t = i * 2
      · subst h2
        rw [List.getElem?_take_of_lt (by omega), List.getElem?_set_ne (by omega), List.getElem?_set_self (by omega)]
        simp [flat_cons]
      · by_cases h3 : t = i * 2 + 1
        · subst h3
          rw [List.getElem?_take_of_lt (by omega), List.getElem?_set_self (by simp; omega)]
          rw [show i * 2 + 1 - i * 2 = 1 by omega]
          simp [flat_cons]
        · rw [List.getElem?_eq_none (by simp; omega), List.getElem?_eq_none]
          rw [flat_length]; simp; omega
  · rw [List.getElem?_set_ne (by omega), List.getElem?_set_ne (by omega)]
    exact h.2.2 t (by omega) h2
theorem dfInv.start {q : Int × Int → Bool} {zs : List (Int × Int)} {k : Nat} (hk : k < zs.length) (ha : ∀ j, j < k → q (zs.getD j (0, 0)) = true) (hn : q (zs.getD k (0, 0)) = false) : dfInv q zs (flat zs) k (k + 1) := by
  have e : (zs.take k).filter q = zs.take k := by
    rw [List.filter_eq_self]
    intro x hx
    obtain ⟨j, hj, rfl⟩ := List.mem_iff_getElem.1 hx
    have hj' : j < k := by rw [List.length_take] at hj; omega
    have := ha j hj'
    rw [List.getElem_take]
    simpa [List.getD, List.getElem?_eq_getElem (Nat.lt_trans hj' hk)] using this
  have e2 : (zs.take (k + 1)).filter q = zs.take k := by rw [take_snocP zs k hk, List.filter_append, e, List.filter_cons_of_neg (by rw [hn]; decide), List.filter_nil, List.append_nil]
  refine ⟨by rw [e2, List.length_take]; omega, ?_, fun _ _ _ => rfl⟩
  rw [e2]
  conv => lhs; rw [← List.take_append_drop k zs, flat_append]
  rw [List.take_append_of_le_length (by rw [flat_length, List.length_take]; omega), List.take_of_length_le (by rw [flat_length, List.length_take]; omega)]
theorem idxP_cases (p : Int × Int → Bool) (zs : List (Int × Int)) : (idxP p zs = -1 ∧ ∀ j, j < zs.length → p (zs.getD j (0, 0)) = false) ∨ ∃ k : Nat, k < zs.length ∧ idxP p zs = k ∧ p (zs.getD k (0, 0)) = true ∧ ∀ j, j < k → p (zs.getD j (0, 0)) = false := by
  unfold idxP
  by_cases h : zs.findIdx p < zs.length
  · rw [if_pos h]
    obtain ⟨h1, h2⟩ := (List.findIdx_eq h).1 rfl
    refine .inr ⟨zs.findIdx p, h, rfl, by simpa [List.getD, List.getElem?_eq_getElem h] using h1, fun j hj => ?_⟩
    have := h2 j hj
    simpa [List.getD, List.getElem?_eq_getElem (Nat.lt_trans hj h)] using this
  · rw [if_neg h]
    rw [List.findIdx_lt_length] at h
    refine .inl ⟨rfl, fun j hj => ?_⟩
    cases hp : p (zs.getD j (0, 0))
    · rfl
    · exact absurd ⟨zs[j], List.getElem_mem hj, by simpa [List.getD, List.getElem?_eq_getElem hj] using hp⟩ h
theorem own_sl {w : World} {base size n : Nat} {e : TypeId} {v : Value} {xs : List Value} (h : w.ownsRow base e size v n xs) : ∃ a c, v = .slice a n c := by
  rcases h.2 with ⟨h1, h2⟩ | ⟨g, cap, cur, h1, _⟩
  · exact ⟨none, 0, by rw [h1, h2]⟩
  · exact ⟨_, _, h1⟩
end Go.Proofs.YtkkmlolnikomdaaGreatDoor
