/- ServerPlays: what a round of the law keeps. ServerPlays: the body of its loop, out of the translation. -/
import Derived.Test.YtkkmlolnikomdaaGreatDoorServerPlaysProofM39
import Derived.Test.YtkkmlolnikomdaaGreatDoorErr
namespace Go.Proofs.YtkkmlolnikomdaaGreatDoor
open Go.RowKit

/-- both servers, a token's box T, a ticket's box K, behind the law's beginning w -/
def PLw (w W : World) (b r T K : Nat) (li : Int) (A C : Vals) (bx : List Nat) (x0 x1 x2 x3 y0 y1 y2 y3 : Int) : Prop :=
  PA W w.heap.size b r li A C bx ∧ ObjAt W T 34 [.int .i64 x0, .int .i64 x1, .int .i64 x2, .int .i64 x3] ∧ ObjAt W K 36 [.int .i64 y0, .int .i64 y1, .int .i64 y2, .int .i64 y3] ∧ Below w.heap.size w W ∧ (T ∈ bx ∧ K ∈ bx ∧ T ≠ K)
theorem PLw.below {w W W' : World} {b r T K : Nat} {li : Int} {A C : Vals} {bx : List Nat} {x0 x1 x2 x3 y0 y1 y2 y3 : Int} (h : PLw w W b r T K li A C bx x0 x1 x2 x3 y0 y1 y2 y3) (hb : Below W.heap.size W W') : PLw w W' b r T K li A C bx x0 x1 x2 x3 y0 y1 y2 y3 :=
  ⟨h.1.below hb, h.2.1.below hb, h.2.2.1.below hb, h.2.2.2.1.trans (hb.mono h.2.2.2.1.size), h.2.2.2.2⟩
theorem PLw.add {w W W' : World} {b r T K : Nat} {li : Int} {A C : Vals} {bx : List Nat} {x0 x1 x2 x3 y0 y1 y2 y3 : Int} (h : PLw w W b r T K li A C bx x0 x1 x2 x3 y0 y1 y2 y3) (hb : Below W.heap.size W W') {Y : Nat} (hY : W.heap.size ≤ Y) (hl : Y < W'.heap.size) : PLw w W' b r T K li A C (Y :: bx) x0 x1 x2 x3 y0 y1 y2 y3 :=
  ⟨h.1.add hb hY hl, h.2.1.below hb, h.2.2.1.below hb, h.2.2.2.1.trans (hb.mono h.2.2.2.1.size), List.mem_cons_of_mem _ h.2.2.2.2.1, List.mem_cons_of_mem _ h.2.2.2.2.2.1, h.2.2.2.2.2.2⟩
theorem PLw.go {w W W' : World} {b r T K : Nat} {li : Int} {A C A' C' : Vals} {bx : List Nat} {x0 x1 x2 x3 y0 y1 y2 y3 : Int} (h : PLw w W b r T K li A C bx x0 x1 x2 x3 y0 y1 y2 y3) (hp : PA W' w.heap.size b r li A' C' bx) (hf : FrB bx W W') (hb : Below w.heap.size W W') : PLw w W' b r T K li A' C' bx x0 x1 x2 x3 y0 y1 y2 y3 :=
  ⟨hp, hf T h.2.2.2.2.1 _ _ h.2.1, hf K h.2.2.2.2.2.1 _ _ h.2.2.1, h.2.2.2.1.trans hb, h.2.2.2.2⟩
theorem PLw.bel {w W : World} {b r T K : Nat} {li : Int} {A C : Vals} {bx : List Nat} {x0 x1 x2 x3 y0 y1 y2 y3 : Int} (h : PLw w W b r T K li A C bx x0 x1 x2 x3 y0 y1 y2 y3) : Below w.heap.size w W := h.2.2.2.1
theorem PA.low {w : World} {B b r : Nat} {li : Int} {A C : Vals} {bx : List Nat} (h : PA w B b r li A C bx) : ∀ Y ∈ bx, Y < w.heap.size := by
  obtain ⟨F, G, h1, h2, h3, h4, h5, h6⟩ := h
  exact fun Y hY => (h4 Y hY).2.2
theorem pl_other8 {w : World} {X Y : Nat} {T : TypeId} {cs : List Value} (h : ObjAt w X T cs) (hn : X ≠ Y) (x0 x1 x2 x3 x4 x5 x6 x7 : Value) : ObjAt ((((((((w.setCell ⟨Y, 0, none⟩ x0).setCell ⟨Y, 1, none⟩ x1).setCell ⟨Y, 2, none⟩ x2).setCell ⟨Y, 3, none⟩ x3).setCell ⟨Y, 4, none⟩ x4).setCell ⟨Y, 5, none⟩ x5).setCell ⟨Y, 6, none⟩ x6).setCell ⟨Y, 7, none⟩ x7) X T cs :=
  (((((((h.setOther (a := ⟨Y, 0, none⟩) hn x0).setOther (a := ⟨Y, 1, none⟩) hn x1).setOther (a := ⟨Y, 2, none⟩) hn x2).setOther (a := ⟨Y, 3, none⟩) hn x3).setOther (a := ⟨Y, 4, none⟩) hn x4).setOther (a := ⟨Y, 5, none⟩) hn x5).setOther (a := ⟨Y, 6, none⟩) hn x6).setOther (a := ⟨Y, 7, none⟩) hn x7
theorem PLw.set8 {w W : World} {b r T K : Nat} {li : Int} {A C : Vals} {bx : List Nat} {x0 x1 x2 x3 y0 y1 y2 y3 : Int} (h : PLw w W b r T K li A C bx x0 x1 x2 x3 y0 y1 y2 y3) {Y : Nat} (hY : Y ∈ bx) (hT : T ≠ Y) (hK : K ≠ Y) (hw : w.heap.size ≤ Y) (z0 z1 z2 z3 z4 z5 z6 z7 : Value) : PLw w ((((((((W.setCell ⟨Y, 0, none⟩ z0).setCell ⟨Y, 1, none⟩ z1).setCell ⟨Y, 2, none⟩ z2).setCell ⟨Y, 3, none⟩ z3).setCell ⟨Y, 4, none⟩ z4).setCell ⟨Y, 5, none⟩ z5).setCell ⟨Y, 6, none⟩ z6).setCell ⟨Y, 7, none⟩ z7) b r T K li A C bx x0 x1 x2 x3 y0 y1 y2 y3 :=
  ⟨h.1.set8 hY _ _ _ _ _ _ _ _, pl_other8 h.2.1 hT _ _ _ _ _ _ _ _, pl_other8 h.2.2.1 hK _ _ _ _ _ _ _ _, bel_set8 h.2.2.2.1 hw _ _ _ _ _ _ _ _, h.2.2.2.2⟩
/-- the ticket is kept -/
theorem PLw.setK {w W : World} {b r T K : Nat} {li : Int} {A C : Vals} {bx : List Nat} {x0 x1 x2 x3 y0 y1 y2 y3 : Int} (h : PLw w W b r T K li A C bx x0 x1 x2 x3 y0 y1 y2 y3) (hw : w.heap.size ≤ K) (c0 c1 c2 c3 : Int) : PLw w ((((W.setCell ⟨K, 0, none⟩ (.int .i64 c0)).setCell ⟨K, 1, none⟩ (.int .i64 c1)).setCell ⟨K, 2, none⟩ (.int .i64 c2)).setCell ⟨K, 3, none⟩ (.int .i64 c3)) b r T K li A C bx x0 x1 x2 x3 c0 c1 c2 c3 :=
  ⟨h.1.set4 h.2.2.2.2.2.1 0 _ _ _ _, rs_obj4 h.2.1 h.2.2.2.2.2.2 _ _ _ _, (((h.2.2.1.set 0 _).set 1 _).set 2 _).set 3 _, rs_bel4 h.2.2.2.1 hw _ _ _ _, h.2.2.2.2⟩
/-- the token is kept -/
theorem PLw.setT {w W : World} {b r T K : Nat} {li : Int} {A C : Vals} {bx : List Nat} {x0 x1 x2 x3 y0 y1 y2 y3 : Int} (h : PLw w W b r T K li A C bx x0 x1 x2 x3 y0 y1 y2 y3) (hw : w.heap.size ≤ T) (c0 c1 c2 c3 : Int) : PLw w ((((W.setCell ⟨T, 0, none⟩ (.int .i64 c0)).setCell ⟨T, 1, none⟩ (.int .i64 c1)).setCell ⟨T, 2, none⟩ (.int .i64 c2)).setCell ⟨T, 3, none⟩ (.int .i64 c3)) b r T K li A C bx c0 c1 c2 c3 y0 y1 y2 y3 :=
  ⟨h.1.set4 h.2.2.2.2.1 0 _ _ _ _, (((h.2.1.set 0 _).set 1 _).set 2 _).set 3 _, rs_obj4 h.2.2.1 (fun e => h.2.2.2.2.2.2 e.symm) _ _ _ _, rs_bel4 h.2.2.2.1 hw _ _ _ _, h.2.2.2.2⟩
theorem PLw.set1 {w W : World} {b r T K : Nat} {li : Int} {A C : Vals} {bx : List Nat} {x0 x1 x2 x3 y0 y1 y2 y3 : Int} (h : PLw w W b r T K li A C bx x0 x1 x2 x3 y0 y1 y2 y3) {Y : Nat} (hY : Y ∈ bx) (hT : T ≠ Y) (hK : K ≠ Y) (hw : w.heap.size ≤ Y) (i : Nat) (u : Value) : PLw w (W.setCell ⟨Y, i, none⟩ u) b r T K li A C bx x0 x1 x2 x3 y0 y1 y2 y3 :=
  ⟨h.1.set hY i u, h.2.1.setOther (a := ⟨Y, i, none⟩) hT u, h.2.2.1.setOther (a := ⟨Y, i, none⟩) hK u, h.2.2.2.1.setCell (p := ⟨Y, i, none⟩) hw u, h.2.2.2.2⟩
theorem PLw.drew {w W : World} {b r T K : Nat} {li : Int} {A C : Vals} {bx : List Nat} {x0 x1 x2 x3 y0 y1 y2 y3 : Int} (h : PLw w W b r T K li A C bx x0 x1 x2 x3 y0 y1 y2 y3) : PLw w W.drew b r T K li A C bx x0 x1 x2 x3 y0 y1 y2 y3 := h.below (Below.refl _ _).drew
theorem PLw.addD {w W : World} {b r T K : Nat} {li : Int} {A C : Vals} {bx : List Nat} {x0 x1 x2 x3 y0 y1 y2 y3 : Int} (h : PLw w W b r T K li A C bx x0 x1 x2 x3 y0 y1 y2 y3) (o : Obj) : PLw w (W.alloc o).drew b r T K li A C (W.heap.size :: bx) x0 x1 x2 x3 y0 y1 y2 y3 :=
  (h.add ((Below.refl _ _).alloc (Nat.le_refl _) o) (Nat.le_refl _) (by simp)).drew
theorem obj_set8 {w2 : World} {Y : Nat} {T : TypeId} {y0 y1 y2 y3 y4 y5 y6 y7 : Value} (h : ObjAt w2 Y T [y0, y1, y2, y3, y4, y5, y6, y7]) (x0 x1 x2 x3 x4 x5 x6 x7 : Value) : ObjAt ((((((((w2.setCell ⟨Y, 0, none⟩ x0).setCell ⟨Y, 1, none⟩ x1).setCell ⟨Y, 2, none⟩ x2).setCell ⟨Y, 3, none⟩ x3).setCell ⟨Y, 4, none⟩ x4).setCell ⟨Y, 5, none⟩ x5).setCell ⟨Y, 6, none⟩ x6).setCell ⟨Y, 7, none⟩ x7) Y T [x0, x1, x2, x3, x4, x5, x6, x7] :=
  (((((((h.set 0 x0).set 1 x1).set 2 x2).set 3 x3).set 4 x4).set 5 x5).set 6 x6).set 7 x7
theorem obj_cells8 {w : World} {Y : Nat} {T : TypeId} {x0 x1 x2 x3 x4 x5 x6 x7 : Value} (h : ObjAt w Y T [x0, x1, x2, x3, x4, x5, x6, x7]) : w.cell? ⟨Y, 0, none⟩ = some x0 ∧ w.cell? ⟨Y, 1, none⟩ = some x1 ∧ w.cell? ⟨Y, 2, none⟩ = some x2 ∧ w.cell? ⟨Y, 3, none⟩ = some x3 ∧ w.cell? ⟨Y, 4, none⟩ = some x4 ∧ w.cell? ⟨Y, 5, none⟩ = some x5 ∧ w.cell? ⟨Y, 6, none⟩ = some x6 ∧ w.cell? ⟨Y, 7, none⟩ = some x7 ∧
    w.frozen? ⟨Y, 0, none⟩ = false ∧ w.frozen? ⟨Y, 1, none⟩ = false ∧ w.frozen? ⟨Y, 2, none⟩ = false ∧ w.frozen? ⟨Y, 3, none⟩ = false ∧ w.frozen? ⟨Y, 4, none⟩ = false ∧ w.frozen? ⟨Y, 5, none⟩ = false ∧ w.frozen? ⟨Y, 6, none⟩ = false ∧ w.frozen? ⟨Y, 7, none⟩ = false :=
  ⟨h.cell (i := 0) rfl, h.cell (i := 1) rfl, h.cell (i := 2) rfl, h.cell (i := 3) rfl, h.cell (i := 4) rfl, h.cell (i := 5) rfl, h.cell (i := 6) rfl, h.cell (i := 7) rfl, h.free 0, h.free 1, h.free 2, h.free 3, h.free 4, h.free 5, h.free 6, h.free 7⟩
theorem pl_keepA {w2 : World} {Y bt ot : Nat} {c0 c1 c2 c3 c4 c5 c6 c7 c8 c9 ct : Value} (o : Obj) (hY : Y < w2.heap.size) (hb : bt < w2.heap.size) (K : w2.cell? ⟨Y, 0, none⟩ = some c0 ∧ w2.cell? ⟨Y, 1, none⟩ = some c1 ∧ w2.cell? ⟨Y, 2, none⟩ = some c2 ∧ w2.cell? ⟨Y, 3, none⟩ = some c3 ∧ w2.cell? ⟨Y, 4, none⟩ = some c4 ∧ w2.cell? ⟨Y, 5, none⟩ = some c5 ∧ w2.cell? ⟨Y, 6, none⟩ = some c6 ∧ w2.cell? ⟨Y, 7, none⟩ = some c7 ∧ w2.cell? ⟨Y, 8, none⟩ = some c8 ∧ w2.cell? ⟨Y, 9, none⟩ = some c9 ∧ w2.cell? ⟨bt, ot, none⟩ = some ct) : (w2.alloc o).cell? ⟨Y, 0, none⟩ = some c0 ∧ (w2.alloc o).cell? ⟨Y, 1, none⟩ = some c1 ∧ (w2.alloc o).cell? ⟨Y, 2, none⟩ = some c2 ∧ (w2.alloc o).cell? ⟨Y, 3, none⟩ = some c3 ∧ (w2.alloc o).cell? ⟨Y, 4, none⟩ = some c4 ∧ (w2.alloc o).cell? ⟨Y, 5, none⟩ = some c5 ∧ (w2.alloc o).cell? ⟨Y, 6, none⟩ = some c6 ∧ (w2.alloc o).cell? ⟨Y, 7, none⟩ = some c7 ∧ (w2.alloc o).cell? ⟨Y, 8, none⟩ = some c8 ∧ (w2.alloc o).cell? ⟨Y, 9, none⟩ = some c9 ∧ (w2.alloc o).cell? ⟨bt, ot, none⟩ = some ct := by
  have e : ∀ b i, b < w2.heap.size → (w2.alloc o).cell? ⟨b, i, none⟩ = w2.cell? ⟨b, i, none⟩ := fun b i h => World.cell?_alloc_lt _ _ ⟨b, i, none⟩ h
  rw [e _ _ hY, e _ _ hY, e _ _ hY, e _ _ hY, e _ _ hY, e _ _ hY, e _ _ hY, e _ _ hY, e _ _ hY, e _ _ hY, e _ _ hb]
  exact K
theorem pl_keep8 {w2 : World} {Y Z bt ot : Nat} {c0 c1 c2 c3 c4 c5 c6 c7 c8 c9 ct : Value} (hn : Y ≠ Z) (hm : bt ≠ Z) (K : w2.cell? ⟨Y, 0, none⟩ = some c0 ∧ w2.cell? ⟨Y, 1, none⟩ = some c1 ∧ w2.cell? ⟨Y, 2, none⟩ = some c2 ∧ w2.cell? ⟨Y, 3, none⟩ = some c3 ∧ w2.cell? ⟨Y, 4, none⟩ = some c4 ∧ w2.cell? ⟨Y, 5, none⟩ = some c5 ∧ w2.cell? ⟨Y, 6, none⟩ = some c6 ∧ w2.cell? ⟨Y, 7, none⟩ = some c7 ∧ w2.cell? ⟨Y, 8, none⟩ = some c8 ∧ w2.cell? ⟨Y, 9, none⟩ = some c9 ∧ w2.cell? ⟨bt, ot, none⟩ = some ct) (x0 x1 x2 x3 x4 x5 x6 x7 : Value) : ((((((((w2.setCell ⟨Z, 0, none⟩ x0).setCell ⟨Z, 1, none⟩ x1).setCell ⟨Z, 2, none⟩ x2).setCell ⟨Z, 3, none⟩ x3).setCell ⟨Z, 4, none⟩ x4).setCell ⟨Z, 5, none⟩ x5).setCell ⟨Z, 6, none⟩ x6).setCell ⟨Z, 7, none⟩ x7).cell? ⟨Y, 0, none⟩ = some c0 ∧ ((((((((w2.setCell ⟨Z, 0, none⟩ x0).setCell ⟨Z, 1, none⟩ x1).setCell ⟨Z, 2, none⟩ x2).setCell ⟨Z, 3, none⟩ x3).setCell ⟨Z, 4, none⟩ x4).setCell ⟨Z, 5, none⟩ x5).setCell ⟨Z, 6, none⟩ x6).setCell ⟨Z, 7, none⟩ x7).cell? ⟨Y, 1, none⟩ = some c1 ∧ ((((((((w2.setCell ⟨Z, 0, none⟩ x0).setCell ⟨Z, 1, none⟩ x1).setCell ⟨Z, 2, none⟩ x2).setCell ⟨Z, 3, none⟩ x3).setCell ⟨Z, 4, none⟩ x4).setCell ⟨Z, 5, none⟩ x5).setCell ⟨Z, 6, none⟩ x6).setCell ⟨Z, 7, none⟩ x7).cell? ⟨Y, 2, none⟩ = some c2 ∧ ((((((((w2.setCell ⟨Z, 0, none⟩ x0).setCell ⟨Z, 1, none⟩ x1).setCell ⟨Z, 2, none⟩ x2).setCell ⟨Z, 3, none⟩ x3).setCell ⟨Z, 4, none⟩ x4).setCell ⟨Z, 5, none⟩ x5).setCell ⟨Z, 6, none⟩ x6).setCell ⟨Z, 7, none⟩ x7).cell? ⟨Y, 3, none⟩ = some c3 ∧ ((((((((w2.setCell ⟨Z, 0, none⟩ x0).setCell ⟨Z, 1, none⟩ x1).setCell ⟨Z, 2, none⟩ x2).setCell ⟨Z, 3, none⟩ x3).setCell ⟨Z, 4, none⟩ x4).setCell ⟨Z, 5, none⟩ x5).setCell ⟨Z, 6, none⟩ x6).setCell ⟨Z, 7, none⟩ x7).cell? ⟨Y, 4, none⟩ = some c4 ∧ ((((((((w2.setCell ⟨Z, 0, none⟩ x0).setCell ⟨Z, 1, none⟩ x1).setCell ⟨Z, 2, none⟩ x2).setCell ⟨Z, 3, none⟩ x3).setCell ⟨Z, 4, none⟩ x4).setCell ⟨Z, 5, none⟩ x5).setCell ⟨Z, 6, none⟩ x6).setCell ⟨Z, 7, none⟩ x7).cell? ⟨Y, 5, none⟩ = some c5 ∧ ((((((((w2.setCell ⟨Z, 0, none⟩ x0).setCell ⟨Z, 1, none⟩ x1).setCell ⟨Z, 2, none⟩ x2).setCell ⟨Z, 3, none⟩ x3).setCell ⟨Z, 4, none⟩ x4).setCell ⟨Z, 5, none⟩ x5).setCell ⟨Z, 6, none⟩ x6).setCell ⟨Z, 7, none⟩ x7).cell? ⟨Y, 6, none⟩ = some c6 ∧ ((((((((w2.setCell ⟨Z, 0, none⟩ x0).setCell ⟨Z, 1, none⟩ x1).setCell ⟨Z, 2, none⟩ x2).setCell ⟨Z, 3, none⟩ x3).setCell ⟨Z, 4, none⟩ x4).setCell ⟨Z, 5, none⟩ x5).setCell ⟨Z, 6, none⟩ x6).setCell ⟨Z, 7, none⟩ x7).cell? ⟨Y, 7, none⟩ = some c7 ∧ ((((((((w2.setCell ⟨Z, 0, none⟩ x0).setCell ⟨Z, 1, none⟩ x1).setCell ⟨Z, 2, none⟩ x2).setCell ⟨Z, 3, none⟩ x3).setCell ⟨Z, 4, none⟩ x4).setCell ⟨Z, 5, none⟩ x5).setCell ⟨Z, 6, none⟩ x6).setCell ⟨Z, 7, none⟩ x7).cell? ⟨Y, 8, none⟩ = some c8 ∧ ((((((((w2.setCell ⟨Z, 0, none⟩ x0).setCell ⟨Z, 1, none⟩ x1).setCell ⟨Z, 2, none⟩ x2).setCell ⟨Z, 3, none⟩ x3).setCell ⟨Z, 4, none⟩ x4).setCell ⟨Z, 5, none⟩ x5).setCell ⟨Z, 6, none⟩ x6).setCell ⟨Z, 7, none⟩ x7).cell? ⟨Y, 9, none⟩ = some c9 ∧ ((((((((w2.setCell ⟨Z, 0, none⟩ x0).setCell ⟨Z, 1, none⟩ x1).setCell ⟨Z, 2, none⟩ x2).setCell ⟨Z, 3, none⟩ x3).setCell ⟨Z, 4, none⟩ x4).setCell ⟨Z, 5, none⟩ x5).setCell ⟨Z, 6, none⟩ x6).setCell ⟨Z, 7, none⟩ x7).cell? ⟨bt, ot, none⟩ = some ct := by
  have e : ∀ b i, b ≠ Z → ((((((((w2.setCell ⟨Z, 0, none⟩ x0).setCell ⟨Z, 1, none⟩ x1).setCell ⟨Z, 2, none⟩ x2).setCell ⟨Z, 3, none⟩ x3).setCell ⟨Z, 4, none⟩ x4).setCell ⟨Z, 5, none⟩ x5).setCell ⟨Z, 6, none⟩ x6).setCell ⟨Z, 7, none⟩ x7).cell? ⟨b, i, none⟩ = w2.cell? ⟨b, i, none⟩ := fun b i hb => by
    rw [World.cell?_setCell_far _ _ _ _ (fun h => hb h.symm), World.cell?_setCell_far _ _ _ _ (fun h => hb h.symm), World.cell?_setCell_far _ _ _ _ (fun h => hb h.symm), World.cell?_setCell_far _ _ _ _ (fun h => hb h.symm), World.cell?_setCell_far _ _ _ _ (fun h => hb h.symm), World.cell?_setCell_far _ _ _ _ (fun h => hb h.symm), World.cell?_setCell_far _ _ _ _ (fun h => hb h.symm), World.cell?_setCell_far _ _ _ _ (fun h => hb h.symm)]
  rw [e _ _ hn, e _ _ hn, e _ _ hn, e _ _ hn, e _ _ hn, e _ _ hn, e _ _ hn, e _ _ hn, e _ _ hn, e _ _ hn, e _ _ hm]
  exact K
/-- boxes but K and T are forgotten -/
theorem PLw.drop {w W : World} {b r T K : Nat} {li : Int} {A C : Vals} {bx : List Nat} {x0 x1 x2 x3 y0 y1 y2 y3 : Int} (h : PLw w W b r T K li A C bx x0 x1 x2 x3 y0 y1 y2 y3) : PLw w W b r T K li A C [K, T] x0 x1 x2 x3 y0 y1 y2 y3 := by
  obtain ⟨⟨F, G, h1, h2, h3, h4, h5, h6⟩, k1, k2, k3, k4, k5, k6⟩ := h
  refine ⟨⟨F, G, h1, h2, h3, fun x hx => ?_, h5, h6⟩, k1, k2, k3, by simp, by simp, k6⟩
  simp only [List.mem_cons, List.not_mem_nil, or_false] at hx
  rcases hx with rfl | rfl
  · exact h4 _ k5
  · exact h4 _ k4
theorem error_self (c : Int) (w : World) (hg : ErrT w) : Calls Tryz.prog 7 #[errV c, .int .i64 c] w fun e w' => e = .returned (.bool true) ∧ Below w.heap.size w w' := by
  have := error_any c c w hg
  rwa [show (c == c) = true by simp] at this
theorem HelloAt.below {w w' : World} {b o : Nat} {a t0 t1 t2 t3 u0 u1 u2 u3 : Int} {s : ByteArray} (h : HelloAt w b o a t0 t1 t2 t3 u0 u1 u2 u3 s) {B : Nat} (hb : Below B w w') (hB : b < B) : HelloAt w' b o a t0 t1 t2 t3 u0 u1 u2 u3 s := by
  obtain ⟨h0, h1, h2, h3, h4, h5, h6, h7, h8, h9⟩ := h
  exact ⟨(hb.cell (p := ⟨b, _, none⟩) hB).trans h0, (hb.cell (p := ⟨b, _, none⟩) hB).trans h1, (hb.cell (p := ⟨b, _, none⟩) hB).trans h2, (hb.cell (p := ⟨b, _, none⟩) hB).trans h3, (hb.cell (p := ⟨b, _, none⟩) hB).trans h4, (hb.cell (p := ⟨b, _, none⟩) hB).trans h5, (hb.cell (p := ⟨b, _, none⟩) hB).trans h6, (hb.cell (p := ⟨b, _, none⟩) hB).trans h7, (hb.cell (p := ⟨b, _, none⟩) hB).trans h8, (hb.cell (p := ⟨b, _, none⟩) hB).trans h9⟩
end Go.Proofs.YtkkmlolnikomdaaGreatDoor

namespace Go.Proofs.YtkkmlolnikomdaaGreatDoor
open Go.RowKit

/-- the first loop in a code: its body -/
def firstLoop : Code → Option Code
  | .loop c => some c
  | .seq a b => match firstLoop a with
    | some c => some c
    | none => firstLoop b
  | .block _ c => firstLoop c
  | .scope c => firstLoop c
  | .cond _ a b => match firstLoop a with
    | some c => some c
    | none => firstLoop b
  | _ => none
noncomputable def spBody : Code := ((Tryz.f3.body.bind firstLoop).getD .skip)
end Go.Proofs.YtkkmlolnikomdaaGreatDoor
