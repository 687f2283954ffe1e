/- TopKnown: the server, and two rows of integers, apart from each other. -/
import Derived.Test.YtfehnfbmlomccaaSHello
import Derived.Test.YtfehnfbmlomccaaConn
import Derived.Test.YtfehnfbmlomccaaReset
import Derived.Deep.AppendLies
namespace Go.Proofs.Ytfehnfbmlomccaa
open Go.RowKit

theorem own_carry {w w' : World} {base size n : Nat} {e : TypeId} {v : Value} {xs : List Value} (h : w.ownsRow base e size v n xs) (hb : ∀ g, v.ownBlock = some g → w'.heap[g]? = w.heap[g]?) : w'.ownsRow base e size v n xs := by
  refine ⟨h.1, ?_⟩
  rcases h.2 with h2 | ⟨g, cap, cur, rfl, h3, h4, h5⟩
  · exact .inl h2
  · exact .inr ⟨g, cap, cur, rfl, h3, (hb g rfl).trans h4, h5⟩
theorem own_lt {w : World} {base size n : Nat} {e : TypeId} {v : Value} {xs : List Value} (h : w.ownsRow base e size v n xs) : ∀ g, v.ownBlock = some g → base ≤ g ∧ g < w.heap.size := by
  intro g hg
  rcases h.2 with ⟨rfl, _⟩ | ⟨g', cap, cur, rfl, h3, h4, _⟩
  · simp [Value.ownBlock] at hg
  · simp [Value.ownBlock] at hg
    subst hg
    exact ⟨h3, lt_of_block h4⟩
/-- a server and two rows, apart from each other; all of it at B or later -/
structure TK (w : World) (B b q bi bv : Nat) (K cn : Int) (v : Value) (zs : List (Int × Int)) (m1 m2 : Nat) (vn vt : Value) (xs ys : List Value) : Prop where
  sq : SQ w b 0 K 0 10 q bi bv cn v zs
  rn : w.ownsRow B 3 1 vn m1 xs
  rt : w.ownsRow B 3 1 vt m2 ys
  hb : B ≤ b
  hq : B ≤ q
  hv : ∀ g, v.ownBlock = some g → B ≤ g
  sn : ∀ g, vn.ownBlock = some g → g ≠ b ∧ g ≠ q ∧ v.ownBlock ≠ some g ∧ vt.ownBlock ≠ some g
  st : ∀ g, vt.ownBlock = some g → g ≠ b ∧ g ≠ q ∧ v.ownBlock ≠ some g
theorem TK.below {w w' : World} {B b q bi bv : Nat} {K cn : Int} {v : Value} {zs : List (Int × Int)} {m1 m2 : Nat} {vn vt : Value} {xs ys : List Value} (h : TK w B b q bi bv K cn v zs m1 m2 vn vt xs ys) (hw : Below w.heap.size w w') : TK w' B b q bi bv K cn v zs m1 m2 vn vt xs ys :=
  { h with sq := h.sq.below hw, rn := own_carry h.rn (fun g hg => hw.block g (own_lt h.rn g hg).2), rt := own_carry h.rt (fun g hg => hw.block g (own_lt h.rt g hg).2) }
theorem mem_bqS {b q k : Nat} {v : Value} : k ∈ b :: qS q v ↔ k = b ∨ k = q ∨ v.ownBlock = some k := by rw [List.mem_cons, mem_qS]
theorem TK.queue {w w' : World} {B b q bi bv : Nat} {K cn cn' : Int} {v v' : Value} {zs zs' : List (Int × Int)} {m1 m2 : Nat} {vn vt : Value} {xs ys : List Value} (h : TK w B b q bi bv K cn v zs m1 m2 vn vt xs ys) (hB : B ≤ w.heap.size) (hs : SQ w' b 0 K 0 10 q bi bv cn' v' zs') (hr : rowOf w v v') (hk : Kept (b :: qS q v) w w') : TK w' B b q bi bv K cn' v' zs' m1 m2 vn vt xs ys := by
  have nn : ∀ g, (∃ u, (u = vn ∨ u = vt) ∧ u.ownBlock = some g) → g ∉ b :: qS q v := by
    rintro g ⟨u, hu | hu, hg⟩ hm
    · subst hu
      obtain ⟨h1, h2, h3, _⟩ := h.sn g hg
      rcases mem_bqS.1 hm with e | e | e
      · exact h1 e
      · exact h2 e
      · exact h3 e
    · subst hu
      obtain ⟨h1, h2, h3⟩ := h.st g hg
      rcases mem_bqS.1 hm with e | e | e
      · exact h1 e
      · exact h2 e
      · exact h3 e
  refine { sq := hs, rn := own_carry h.rn (fun g hg => hk.block g (own_lt h.rn g hg).2 (nn g ⟨vn, .inl rfl, hg⟩)), rt := own_carry h.rt (fun g hg => hk.block g (own_lt h.rt g hg).2 (nn g ⟨vt, .inr rfl, hg⟩)), hb := h.hb, hq := h.hq, hv := fun g hg => ?_, sn := fun g hg => ?_, st := fun g hg => ?_ }
  · rcases hr with e | ⟨g', e, hg'⟩
    · exact h.hv g (by rw [← e]; exact hg)
    · rw [hg] at e; have := Option.some.inj e; omega
  · obtain ⟨h1, h2, h3, h4⟩ := h.sn g hg
    refine ⟨h1, h2, ?_, h4⟩
    rcases hr with e | ⟨g', e, hg'⟩
    · rw [e]; exact h3
    · rw [e]; intro e2; have := Option.some.inj e2; have := (own_lt h.rn g hg).2; omega
  · obtain ⟨h1, h2, h3⟩ := h.st g hg
    refine ⟨h1, h2, ?_⟩
    rcases hr with e | ⟨g', e, hg'⟩
    · rw [e]; exact h3
    · rw [e]; intro e2; have := Option.some.inj e2; have := (own_lt h.rt g hg).2; omega
theorem TK.bel {a w w' : World} {B b q bi bv : Nat} {K cn : Int} {v : Value} {zs : List (Int × Int)} {m1 m2 : Nat} {vn vt : Value} {xs ys : List Value} (h : TK w B b q bi bv K cn v zs m1 m2 vn vt xs ys) (ha : Below B a w) (hB : B ≤ w.heap.size) (hk : Kept (b :: qS q v) w w') : Below B a w' :=
  ha.trans (hk.below hB (fun x hx => by
    rcases mem_bqS.1 hx with rfl | rfl | hx
    · exact h.hb
    · exact h.hq
    · exact h.hv x hx))
theorem SQ.grown {w w' : World} {b : Nat} {e k o li : Int} {q bi bv : Nat} {cn : Int} {v : Value} {zs : List (Int × Int)} {r : Option Nat} (h : SQ w b e k o li q bi bv cn v zs) (hg : w.grownBy w' r) (hr : ∀ g, r = some g → g ≠ b ∧ g ≠ q ∧ v.ownBlock ≠ some g) : SQ w' b e k o li q bi bv cn v zs :=
  { obj := grown_obj hg h.obj (fun g e' => (hr g e').1)
    que := ⟨grown_obj hg h.que.1 (fun g e' => (hr g e').2.1), h.que.2.1.carry hg.size (fun g hg' => hg.block g (h.que.2.1.lt g hg') (fun e' => (hr g e'.symm).2.2 hg')), h.que.2.2⟩
    ne := h.ne, row := h.row }
theorem TK.pushn {w w' : World} {B b q bi bv : Nat} {K cn : Int} {v : Value} {zs : List (Int × Int)} {m1 m2 m' : Nat} {vn vn' vt : Value} {xs xs' ys : List Value} (h : TK w B b q bi bv K cn v zs m1 m2 vn vt xs ys) (hg : w.grownBy w' vn.ownBlock) (ho : w'.ownsRow B 3 1 vn' m' xs') (hat : ∀ g, vn'.ownBlock = some g → vn.ownBlock = some g ∨ w.heap.size ≤ g) : TK w' B b q bi bv K cn v zs m' m2 vn' vt xs' ys := by
  refine { sq := h.sq.grown hg (fun g e => ⟨(h.sn g e).1, (h.sn g e).2.1, (h.sn g e).2.2.1⟩), rn := ho, rt := own_carry h.rt (fun g hg' => hg.block g (own_lt h.rt g hg').2 (fun e => (h.sn g e.symm).2.2.2 hg')), hb := h.hb, hq := h.hq, hv := h.hv, sn := fun g hg' => ?_, st := h.st }
  rcases hat g hg' with e | e
  · exact h.sn g e
  · have h1 := h.sq.obj.lt
    have h2 := h.sq.que.1.lt
    exact ⟨by omega, by omega, fun e' => by have := h.sq.que.2.1.lt _ e'; omega, fun e' => by have := (own_lt h.rt g e').2; omega⟩
theorem TK.pusht {w w' : World} {B b q bi bv : Nat} {K cn : Int} {v : Value} {zs : List (Int × Int)} {m1 m2 m' : Nat} {vn vt vt' : Value} {xs ys ys' : List Value} (h : TK w B b q bi bv K cn v zs m1 m2 vn vt xs ys) (hg : w.grownBy w' vt.ownBlock) (ho : w'.ownsRow B 3 1 vt' m' ys') (hat : ∀ g, vt'.ownBlock = some g → vt.ownBlock = some g ∨ w.heap.size ≤ g) : TK w' B b q bi bv K cn v zs m1 m' vn vt' xs ys' := by
  have hx : ∀ g, vt'.ownBlock = some g → g ≠ b ∧ g ≠ q ∧ v.ownBlock ≠ some g ∧ vn.ownBlock ≠ some g := by
    intro g hg'
    rcases hat g hg' with e | e
    · exact ⟨(h.st g e).1, (h.st g e).2.1, (h.st g e).2.2, fun e' => (h.sn g e').2.2.2 e⟩
    · have h1 := h.sq.obj.lt
      have h2 := h.sq.que.1.lt
      exact ⟨by omega, by omega, fun e' => by have := h.sq.que.2.1.lt _ e'; omega, fun e' => by have := (own_lt h.rn g e').2; omega⟩
  exact { sq := h.sq.grown hg (fun g e => h.st g e), rn := own_carry h.rn (fun g hg' => hg.block g (own_lt h.rn g hg').2 (fun e => (h.sn g hg').2.2.2 e.symm)), rt := ho, hb := h.hb, hq := h.hq, hv := h.hv, sn := fun g hg' => ⟨(h.sn g hg').1, (h.sn g hg').2.1, (h.sn g hg').2.2.1, fun e => (hx g e).2.2.2 hg'⟩, st := fun g hg' => ⟨(hx g hg').1, (hx g hg').2.1, (hx g hg').2.2.1⟩ }
/-- the numbers and the tags of the first conns -/
def tkN (c : Nat) : List Value := (List.range c).map fun (j : Nat) => .int .i64 (connN 0 (j : Int))
def tkT (x : Int) (c : Nat) : List Value := (List.range c).map fun (j : Nat) => .int .i64 (resetN x 0 (j : Int)).1
theorem tkN_succ (c : Nat) : tkN c ++ [.int .i64 (connN 0 (c : Int))] = tkN (c + 1) := by unfold tkN; rw [List.range_succ, List.map_append]; rfl
theorem tkT_succ (x : Int) (c : Nat) : tkT x c ++ [.int .i64 (resetN x 0 (c : Int)).1] = tkT x (c + 1) := by unfold tkT; rw [List.range_succ, List.map_append]; rfl
theorem tkN_at {c j : Nat} (h : j < c) : (tkN c)[j]? = some (.int .i64 (connN 0 (j : Int))) := by simp [tkN, h]
theorem tkT_at {x : Int} {c j : Nat} (h : j < c) : (tkT x c)[j]? = some (.int .i64 (resetN x 0 (j : Int)).1) := by simp [tkT, h]
theorem tk_right {c : Nat} (h : c < 4096) : connB 0 (c : Int) = true := decide_eq_true (by omega)
theorem tk_num {c : Nat} (h : c < 4096) : connNum 0 (c : Int) = (connN 0 (c : Int), 0) := by unfold connNum; rw [if_pos (tk_right h)]
theorem tk_route {c : Nat} (h : c < 4096) {sh : Int} (h1 : 1 ≤ sh) (h2 : sh ≤ 16) : routeN (connN 0 (c : Int)) sh = (0, 0) := by
  have hi := connN_in 0 (c : Int) (tk_right h)
  unfold routeN
  rw [if_pos ⟨hi.1, hi.2, h1, h2⟩, connOf_back _ _ (tk_right h)]
  simp
theorem tk_route_no {n sh : Int} (h : sh < 1 ∨ 16 < sh) : routeN n sh = (0, 1) := by
  unfold routeN
  rw [if_neg (by omega)]
theorem tk_tag {c : Nat} (h : c < 4096) {x : Int} (hx : inB x = true) : resetN x 0 (c : Int) = (tagOf x [3, connN 0 (c : Int)], 0) := by unfold resetN; rw [if_pos (by rw [hx, tk_right h]; rfl)]
theorem tk_tag_no {n x : Int} (hx : inB x = false) : resetN x 0 n = (0, 1) := by unfold resetN; rw [if_neg (by rw [hx]; simp)]
theorem tk_ne {j c : Nat} (hj : j < c) (hc : c < 4096) : connN 0 (j : Int) ≠ connN 0 (c : Int) := fun e => by
  have := (connN_inj (tk_right (by omega)) (tk_right hc) e).2
  omega
theorem tk_tne {j c : Nat} (hj : j < c) (hc : c < 4096) {x : Int} (hx : inB x = true) : (resetN x 0 (j : Int)).1 ≠ (resetN x 0 (c : Int)).1 := fun e => by
  rw [tk_tag (by omega) hx, tk_tag hc hx] at e
  have h1 := connN_in 0 (j : Int) (tk_right (by omega))
  have h2 := connN_in 0 (c : Int) (tk_right hc)
  have hk := inB_true.1 hx
  have e' : tagOf x [3, connN 0 (j : Int)] = tagOf x ([3, connN 0 (j : Int)].set 1 (connN 0 (c : Int))) := e
  have := (tagOf_set x [3, connN 0 (j : Int)] 1 (connN 0 (c : Int)) (by simp) hk (by
    intro y hy
    simp only [List.mem_cons, List.not_mem_nil, or_false] at hy
    rcases hy with rfl | rfl
    · exact ⟨by omega, by omega⟩
    · exact ⟨h1.1, by omega⟩) ⟨h2.1, by omega⟩).1 e'
  exact tk_ne hj hc this.symm
end Go.Proofs.Ytfehnfbmlomccaa
