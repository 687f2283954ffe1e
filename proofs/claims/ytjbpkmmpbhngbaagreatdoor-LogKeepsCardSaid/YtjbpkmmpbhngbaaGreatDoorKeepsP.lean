/- LogKeeps: a log, and two rows (of rows, and of marks) apart from it. -/
import Derived.Test.YtjbpkmmpbhngbaaGreatDoorLogW
import Derived.Test.YtjbpkmmpbhngbaaGreatDoorOwn
namespace Go.Proofs.YtjbpkmmpbhngbaaGreatDoor
open Go.RowKit

/-- how many bytes records fill, for each beginning of them -/
def marksR (rs : List Rec) : List Int := (List.range (rs.length + 1)).map fun (i : Nat) => ((catR (rs.take i)).length : Int)
theorem marksR_len (rs : List Rec) : (marksR rs).length = rs.length + 1 := by simp [marksR]
theorem marksR_snoc (rs : List Rec) (r : Rec) : marksR (rs ++ [r]) = marksR rs ++ [((catR (rs ++ [r])).length : Int)] := by
  unfold marksR
  rw [List.length_append, List.length_singleton, List.range_succ, List.map_append]
  congr 1
  · refine List.map_congr_left fun i hi => ?_
    have := List.mem_range.1 hi
    rw [List.take_append_of_le_length (by omega)]
  · rw [List.map_cons, List.map_nil, List.take_of_length_le (by simp)]
theorem marksR_at (rs : List Rec) {i : Nat} (h : i ≤ rs.length) : (marksR rs).getD i 0 = ((catR (rs.take i)).length : Int) := by
  unfold marksR
  simp [List.getD]
  rw [List.getElem?_range (by omega)]
  rfl
theorem marksR_take (rs : List Rec) {k : Nat} (h : k ≤ rs.length) : (marksR rs).take (k + 1) = marksR (rs.take k) := by
  unfold marksR
  rw [← List.map_take, List.take_range, List.length_take, Nat.min_eq_left (by omega), Nat.min_eq_left h]
  refine List.map_congr_left fun i hi => ?_
  have := List.mem_range.1 hi
  rw [List.take_take, Nat.min_eq_left (by omega)]
theorem row_carry {w w' : World} {base size n : Nat} {e : TypeId} {v : Value} {xs : List Value} (h : w.ownsRow base e size v n xs) (hb : ∀ g, v.ownBlock = some g → w'.heap[g]? = w.heap[g]?) : w'.ownsRow base e size v n xs := by
  refine ⟨h.1, ?_⟩
  rcases h.2 with h2 | ⟨g, cap, cur, rfl, h3, h4, h5⟩
  · exact .inl h2
  · exact .inr ⟨g, cap, cur, rfl, h3, (hb g rfl).trans h4, h5⟩
/-- a row of one cell a place, cut -/
theorem row_take {w : World} {base n k : Nat} {e : TypeId} {g c : Nat} {xs : List Value} (h : w.ownsRow base e 1 (.slice (some ⟨g, 0, none⟩) n c) n xs) (hk : k ≤ n) : w.ownsRow base e 1 (.slice (some ⟨g, 0, none⟩) k c) k (xs.take k) := by
  refine ⟨by have := h.1; simp; omega, ?_⟩
  rcases h.2 with ⟨h2, _⟩ | ⟨g', cap, cur, e1, h3, h4, h5, h6, h7, h8⟩
  · cases h2
  · cases e1
    refine .inr ⟨g, c, cur, rfl, h3, h4, by omega, h6, h7, ?_⟩
    rw [← h8, List.take_take]
    congr 1
    omega
/-- what is said of a row of what was spent: it lies apart -/
structure XR (W : World) (b : Nat) (dv mv x : Value) (zs : List (Int × Int)) : Prop where
  ps : PSl W x zs
  far : ∀ g, x.ownBlock = some g → g < W.heap.size ∧ g ≠ b ∧ dv.ownBlock ≠ some g ∧ mv.ownBlock ≠ some g
theorem XR.nil (W : World) (b : Nat) (dv mv : Value) : XR W b dv mv (.slice none 0 0) [] := ⟨⟨by simp, .inl ⟨rfl, none, 0, rfl⟩⟩, fun g hg => by simp [Value.ownBlock] at hg⟩
theorem XR.below {W W' : World} {b : Nat} {dv mv x : Value} {zs : List (Int × Int)} (h : XR W b dv mv x zs) (hb : Below W.heap.size W W') : XR W' b dv mv x zs :=
  ⟨h.ps.below hb, fun g hg => ⟨Nat.lt_of_lt_of_le (h.far g hg).1 hb.size, (h.far g hg).2⟩⟩
theorem XR.kept {W W' : World} {b : Nat} {dv mv x : Value} {zs : List (Int × Int)} (h : XR W b dv mv x zs) (hk : Kept [b] W W') : XR W' b dv mv x zs :=
  ⟨h.ps.kept hk (fun y hy he => by have := (h.far y he).2.1; simp at hy; omega), fun g hg => ⟨Nat.lt_of_lt_of_le (h.far g hg).1 hk.size, (h.far g hg).2⟩⟩
/-- a row is put behind one of the two -/
theorem psl_grown {W W' : World} {v x : Value} {zs : List (Int × Int)} (h : PSl W x zs) (hg : W.grownBy W' v.ownBlock) (hn : ∀ g, x.ownBlock = some g → v.ownBlock ≠ some g) : PSl W' x zs := by
  refine ⟨h.1, ?_⟩
  rcases h.2 with h1 | ⟨g, off, c, rfl, h2, h3, h4⟩
  · exact .inl h1
  · have hf : W'.heap[g]? = W.heap[g]? := hg.block g h3 (fun e => hn g rfl e.symm)
    exact .inr ⟨g, off, c, rfl, h2, Nat.lt_of_lt_of_le h3 hg.size, fun j hj => ⟨(World.cell?_of_block (w := W) hf).trans (h4 j hj).1, (World.cell?_of_block (w := W) hf).trans (h4 j hj).2⟩⟩
theorem obj_grown {W W' : World} {row : Option Nat} {b : Nat} {t : TypeId} {cs : List Value} (h : ObjAt W b t cs) (hg : W.grownBy W' row) (hn : row ≠ some b) : ObjAt W' b t cs := (hg.block b h.lt (fun e => hn e.symm)).trans h
structure KA (w W : World) (b : Nat) (S : LS) (v dv mv : Value) (vs : List Value) (rd rm : List Rec) : Prop where
  ok : S.ok
  lg : LgS W b v S
  dn : W.ownsRow w.heap.size 31 1 dv vs.length vs
  mr : W.ownsRow w.heap.size 3 1 mv (marksR rm).length ((marksR rm).map (Value.int .i64))
  len : vs.length = rd.length + 1
  vx : XR W b dv mv v S.zs
  el : ∀ i, i < vs.length → XR W b dv mv (vs.getD i (.slice none 0 0)) (moreR [] (rd.take i))
  nd : ∀ g, dv.ownBlock = some g → g ≠ b ∧ mv.ownBlock ≠ some g
  nm : ∀ g, mv.ownBlock = some g → g ≠ b
  bel : Below w.heap.size w W
  hb : w.heap.size ≤ b
theorem KA.below {w W W' : World} {b : Nat} {S : LS} {v dv mv : Value} {vs : List Value} {rd rm : List Rec} (h : KA w W b S v dv mv vs rd rm) (hB : Below W.heap.size W W') : KA w W' b S v dv mv vs rd rm :=
  { h with
    lg := h.lg.below hB, dn := row_carry h.dn (fun g hg => hB.block g (h.dn.lt g hg).2), mr := row_carry h.mr (fun g hg => hB.block g (h.mr.lt g hg).2)
    vx := h.vx.below hB, el := fun i hi => (h.el i hi).below hB, bel := h.bel.trans (hB.mono h.bel.size) }
theorem KA.lw {w W : World} {b : Nat} {S : LS} {v dv mv : Value} {vs : List Value} {rd rm : List Rec} (h : KA w W b S v dv mv vs rd rm) : LW w W b S := ⟨⟨v, h.lg⟩, h.bel, h.hb⟩
/-- the log does a step -/
theorem KA.step {w W W' : World} {b : Nat} {S S' : LS} {v v' dv mv : Value} {vs : List Value} {rd rm : List Rec} (h : KA w W b S v dv mv vs rd rm) (ok : S'.ok) (hl : LgS W' b v' S') (hv : rowNew W W' v v') (hk : Kept [b] W W') : KA w W' b S' v' dv mv vs rd rm := by
  have hbl := h.lg.lt
  have hz := hk.size
  exact { h with
    ok := ok, lg := hl
    dn := row_carry h.dn (fun g hg => hk.block g (h.dn.lt g hg).2 (by simp; exact (h.nd g hg).1)), mr := row_carry h.mr (fun g hg => hk.block g (h.mr.lt g hg).2 (by simp; exact h.nm g hg))
    vx := ⟨by obtain ⟨x, h1, _⟩ := hl; exact h1.2.1, fun g hg => by
      rcases hv with rfl | hv | ⟨g', e, h1, h2⟩
      · have := h.vx.far g hg
        exact ⟨by omega, this.2⟩
      · rw [hv] at hg; cases hg
      · rw [e] at hg
        cases hg
        exact ⟨h2, by omega, fun e' => by have := (h.dn.lt _ e').2; omega, fun e' => by have := (h.mr.lt _ e').2; omega⟩⟩
    el := fun i hi => (h.el i hi).kept hk, bel := bel_kept1 h.bel hk h.hb h.bel.size }
/-- a row is put behind the first -/
theorem KA.pushD {w W W' : World} {b : Nat} {S : LS} {v dv dv' mv x : Value} {vs vs' : List Value} {rd rm : List Rec} {r : Rec} (h : KA w W b S v dv mv vs rd rm) (hx : XR W b dv mv x (moreR [] (rd ++ [r]))) (hg : W.grownBy W' dv.ownBlock) (hvs : vs' = vs ++ [x]) (ho : W'.ownsRow w.heap.size 31 1 dv' vs'.length vs')
    (hat : ∀ g, dv'.ownBlock = some g → dv.ownBlock = some g ∨ W.heap.size ≤ g) : KA w W' b S v dv' mv vs' (rd ++ [r]) rm := by
  subst hvs
  have hz := hg.size
  have hbl := h.lg.lt
  have far : ∀ y zs, XR W b dv mv y zs → XR W' b dv' mv y zs := fun y zs hy => ⟨psl_grown hy.ps hg (fun g e => (hy.far g e).2.2.1), fun g e => by
    obtain ⟨h1, h2, h3, h4⟩ := hy.far g e
    refine ⟨by omega, h2, fun e' => ?_, h4⟩
    rcases hat g e' with e2 | e2
    · exact h3 e2
    · omega⟩
  refine { h with
    lg := ?_, dn := ho, mr := row_carry h.mr (fun g e => hg.block g (h.mr.lt g e).2 (fun e' => (h.nd g e'.symm).2 e)), len := by simp [h.len], vx := far _ _ h.vx
    el := fun i hi => ?_, nd := fun g e => ?_, bel := h.bel.grown hg h.bel.size (fun k e => (h.dn.lt k e).1) }
  · obtain ⟨y, ⟨h1, h2⟩, h3⟩ := h.lg
    exact ⟨y, ⟨obj_grown h1 hg (fun e => (h.nd b e).1 rfl), psl_grown h2.1 hg (fun g e => (h.vx.far g e).2.2.1), h2.2⟩, h3⟩
  · have hl := h.len
    by_cases e : i < vs.length
    · have h1 := far _ _ (h.el i e)
      rw [List.getD_eq_getElem?_getD, List.getElem?_append_left e, ← List.getD_eq_getElem?_getD, List.take_append_of_le_length (by omega)]
      exact h1
    · have e2 : i = vs.length := by simp at hi; omega
      subst e2
      have h1 := far _ _ hx
      rw [List.getD_eq_getElem?_getD, List.getElem?_append_right (Nat.le_refl _), List.take_of_length_le (by simp; omega)]
      simpa using h1
  · rcases hat g e with e2 | e2
    · exact h.nd g e2
    · exact ⟨by omega, fun e' => by have := (h.mr.lt g e').2; omega⟩
/-- a mark is put behind the second -/
theorem KA.pushM {w W W' : World} {b : Nat} {S : LS} {v dv mv mv' : Value} {vs : List Value} {rd rm rm' : List Rec} (h : KA w W b S v dv mv vs rd rm) (hg : W.grownBy W' mv.ownBlock) (ho : W'.ownsRow w.heap.size 3 1 mv' (marksR rm').length ((marksR rm').map (Value.int .i64)))
    (hat : ∀ g, mv'.ownBlock = some g → mv.ownBlock = some g ∨ W.heap.size ≤ g) : KA w W' b S v dv mv' vs rd rm' := by
  have hz := hg.size
  have hbl := h.lg.lt
  have far : ∀ y zs, XR W b dv mv y zs → XR W' b dv mv' y zs := fun y zs hy => ⟨psl_grown hy.ps hg (fun g e => (hy.far g e).2.2.2), fun g e => by
    obtain ⟨h1, h2, h3, h4⟩ := hy.far g e
    refine ⟨by omega, h2, h3, fun e' => ?_⟩
    rcases hat g e' with e2 | e2
    · exact h4 e2
    · omega⟩
  refine { h with
    lg := ?_, dn := row_carry h.dn (fun g e => hg.block g (h.dn.lt g e).2 (fun e' => (h.nd g e).2 e'.symm)), mr := ho, vx := far _ _ h.vx
    el := fun i hi => far _ _ (h.el i hi), nd := fun g e => ⟨(h.nd g e).1, fun e' => ?_⟩, nm := fun g e => ?_, bel := h.bel.grown hg h.bel.size (fun k e => (h.mr.lt k e).1) }
  · obtain ⟨y, ⟨h1, h2⟩, h3⟩ := h.lg
    exact ⟨y, ⟨obj_grown h1 hg (fun e => (h.nm b e) rfl), psl_grown h2.1 hg (fun g e => (h.vx.far g e).2.2.2), h2.2⟩, h3⟩
  · rcases hat g e' with e2 | e2
    · exact (h.nd g e).2 e2
    · have := (h.dn.lt g e).2; omega
  · rcases hat g e with e2 | e2
    · exact h.nm g e2
    · omega
/-- both are cut -/
theorem KA.cut {w W : World} {b : Nat} {S : LS} {v : Value} {gd gm cd cm n m : Nat} {vs : List Value} {rd rm : List Rec} (h : KA w W b S v (.slice (some ⟨gd, 0, none⟩) n cd) (.slice (some ⟨gm, 0, none⟩) m cm) vs rd rm) (hn : vs.length = n) (hm : (marksR rm).length = m) {k : Nat} (h1 : k ≤ rd.length) (h2 : k ≤ rm.length) :
    KA w W b S v (.slice (some ⟨gd, 0, none⟩) (k + 1) cd) (.slice (some ⟨gm, 0, none⟩) (k + 1) cm) (vs.take (k + 1)) (rd.take k) (rm.take k) := by
  have hl := h.len
  have hd := h.dn
  have hk := h.mr
  rw [hn] at hd
  rw [hm] at hk
  have hml := marksR_len rm
  refine { h with
    dn := ?_, mr := ?_, len := by rw [List.length_take, List.length_take]; omega, vx := ⟨h.vx.ps, h.vx.far⟩, el := fun i hi => ?_, nd := h.nd, nm := h.nm }
  · have e : (vs.take (k + 1)).length = k + 1 := by rw [List.length_take]; omega
    rw [e]
    exact row_take hd (by omega)
  · rw [marksR_len, List.length_take, Nat.min_eq_left h2, ← marksR_take rm h2, List.map_take]
    exact row_take hk (by omega)
  · rw [List.length_take] at hi
    have h3 := h.el i (by omega)
    have e : (vs.take (k + 1)).getD i (.slice none 0 0) = vs.getD i (.slice none 0 0) := by
      simp only [List.getD]
      rw [List.getElem?_take_of_lt (by omega)]
    rw [e, List.take_take, Nat.min_eq_left (by omega)]
    exact ⟨h3.ps, h3.far⟩
end Go.Proofs.YtjbpkmmpbhngbaaGreatDoor
