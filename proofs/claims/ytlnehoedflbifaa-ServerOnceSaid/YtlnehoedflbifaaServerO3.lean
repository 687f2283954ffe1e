/- The server of ServerOnce: a hello by ONE contract, whatever comes of it. -/
import Derived.Test.YtlnehoedflbifaaServerO2
namespace Go.Proofs.Ytlnehoedflbifaa
open Go.RowKit

theorem so_keep {w2 : World} {X Y bt ot : Nat} {c0 c1 c2 c3 c4 : Value} (hn : X ≠ Y) (hm : bt ≠ Y) (K : w2.cell? ⟨X, 0, none⟩ = some c0 ∧ w2.cell? ⟨X, 1, none⟩ = some c1 ∧ w2.cell? ⟨X, 2, none⟩ = some c2 ∧ w2.cell? ⟨X, 3, none⟩ = some c3 ∧ w2.cell? ⟨bt, ot, none⟩ = some c4) (x0 x1 x2 x3 x4 x5 x6 x7 : Value) :
    ((((((((w2.setCell ⟨Y, 0, none⟩ x0).setCell ⟨Y, 1, none⟩ x1).setCell ⟨Y, 2, none⟩ x2).setCell ⟨Y, 3, none⟩ x3).setCell ⟨Y, 4, none⟩ x4).setCell ⟨Y, 5, none⟩ x5).setCell ⟨Y, 6, none⟩ x6).setCell ⟨Y, 7, none⟩ x7).cell? ⟨X, 0, none⟩ = some c0 ∧ ((((((((w2.setCell ⟨Y, 0, none⟩ x0).setCell ⟨Y, 1, none⟩ x1).setCell ⟨Y, 2, none⟩ x2).setCell ⟨Y, 3, none⟩ x3).setCell ⟨Y, 4, none⟩ x4).setCell ⟨Y, 5, none⟩ x5).setCell ⟨Y, 6, none⟩ x6).setCell ⟨Y, 7, none⟩ x7).cell? ⟨X, 1, none⟩ = some c1 ∧ ((((((((w2.setCell ⟨Y, 0, none⟩ x0).setCell ⟨Y, 1, none⟩ x1).setCell ⟨Y, 2, none⟩ x2).setCell ⟨Y, 3, none⟩ x3).setCell ⟨Y, 4, none⟩ x4).setCell ⟨Y, 5, none⟩ x5).setCell ⟨Y, 6, none⟩ x6).setCell ⟨Y, 7, none⟩ x7).cell? ⟨X, 2, none⟩ = some c2 ∧ ((((((((w2.setCell ⟨Y, 0, none⟩ x0).setCell ⟨Y, 1, none⟩ x1).setCell ⟨Y, 2, none⟩ x2).setCell ⟨Y, 3, none⟩ x3).setCell ⟨Y, 4, none⟩ x4).setCell ⟨Y, 5, none⟩ x5).setCell ⟨Y, 6, none⟩ x6).setCell ⟨Y, 7, none⟩ x7).cell? ⟨X, 3, none⟩ = some c3 ∧ ((((((((w2.setCell ⟨Y, 0, none⟩ x0).setCell ⟨Y, 1, none⟩ x1).setCell ⟨Y, 2, none⟩ x2).setCell ⟨Y, 3, none⟩ x3).setCell ⟨Y, 4, none⟩ x4).setCell ⟨Y, 5, none⟩ x5).setCell ⟨Y, 6, none⟩ x6).setCell ⟨Y, 7, none⟩ x7).cell? ⟨bt, ot, none⟩ = some c4 := by
  have e : ∀ b i, b ≠ Y → ((((((((w2.setCell ⟨Y, 0, none⟩ x0).setCell ⟨Y, 1, none⟩ x1).setCell ⟨Y, 2, none⟩ x2).setCell ⟨Y, 3, none⟩ x3).setCell ⟨Y, 4, none⟩ x4).setCell ⟨Y, 5, none⟩ x5).setCell ⟨Y, 6, none⟩ x6).setCell ⟨Y, 7, none⟩ x7).cell? ⟨b, i, none⟩ = w2.cell? ⟨b, i, none⟩ := fun b i hb => by
    rw [World.cell?_setCell_far _ _ _ _ (fun h => hb h.symm), World.cell?_setCell_far _ _ _ _ (fun h => hb h.symm), World.cell?_setCell_far _ _ _ _ (fun h => hb h.symm), World.cell?_setCell_far _ _ _ _ (fun h => hb h.symm), World.cell?_setCell_far _ _ _ _ (fun h => hb h.symm), World.cell?_setCell_far _ _ _ _ (fun h => hb h.symm), World.cell?_setCell_far _ _ _ _ (fun h => hb h.symm), World.cell?_setCell_far _ _ _ _ (fun h => hb h.symm)]
  rw [e _ _ hn, e _ _ hn, e _ _ hn, e _ _ hn, e _ _ hm]
  exact K
theorem so_keepA {w2 : World} {X bt ot : Nat} {c0 c1 c2 c3 c4 : Value} (o : Obj) (hX : X < w2.heap.size) (hb : bt < w2.heap.size) (K : w2.cell? ⟨X, 0, none⟩ = some c0 ∧ w2.cell? ⟨X, 1, none⟩ = some c1 ∧ w2.cell? ⟨X, 2, none⟩ = some c2 ∧ w2.cell? ⟨X, 3, none⟩ = some c3 ∧ w2.cell? ⟨bt, ot, none⟩ = some c4) :
    (w2.alloc o).cell? ⟨X, 0, none⟩ = some c0 ∧ (w2.alloc o).cell? ⟨X, 1, none⟩ = some c1 ∧ (w2.alloc o).cell? ⟨X, 2, none⟩ = some c2 ∧ (w2.alloc o).cell? ⟨X, 3, none⟩ = some c3 ∧ (w2.alloc o).cell? ⟨bt, ot, none⟩ = some c4 := by
  rw [World.cell?_alloc_lt _ _ ⟨X, 0, none⟩ hX, World.cell?_alloc_lt _ _ ⟨X, 1, none⟩ hX, World.cell?_alloc_lt _ _ ⟨X, 2, none⟩ hX, World.cell?_alloc_lt _ _ ⟨X, 3, none⟩ hX, World.cell?_alloc_lt _ _ ⟨bt, ot, none⟩ hb]
  exact K
theorem obj_set8 {w2 : World} {Y : Nat} {T : TypeId} {y0 y1 y2 y3 y4 y5 y6 y7 : Value} (h : ObjAt w2 Y T [y0, y1, y2, y3, y4, y5, y6, y7]) (x0 x1 x2 x3 x4 x5 x6 x7 : Value) : ObjAt ((((((((w2.setCell ⟨Y, 0, none⟩ x0).setCell ⟨Y, 1, none⟩ x1).setCell ⟨Y, 2, none⟩ x2).setCell ⟨Y, 3, none⟩ x3).setCell ⟨Y, 4, none⟩ x4).setCell ⟨Y, 5, none⟩ x5).setCell ⟨Y, 6, none⟩ x6).setCell ⟨Y, 7, none⟩ x7) Y T [x0, x1, x2, x3, x4, x5, x6, x7] :=
  (((((((h.set 0 x0).set 1 x1).set 2 x2).set 3 x3).set 4 x4).set 5 x5).set 6 x6).set 7 x7
theorem obj_cells8 {w : World} {Y : Nat} {T : TypeId} {x0 x1 x2 x3 x4 x5 x6 x7 : Value} (h : ObjAt w Y T [x0, x1, x2, x3, x4, x5, x6, x7]) : w.cell? ⟨Y, 0, none⟩ = some x0 ∧ w.cell? ⟨Y, 1, none⟩ = some x1 ∧ w.cell? ⟨Y, 2, none⟩ = some x2 ∧ w.cell? ⟨Y, 3, none⟩ = some x3 ∧ w.cell? ⟨Y, 4, none⟩ = some x4 ∧ w.cell? ⟨Y, 5, none⟩ = some x5 ∧ w.cell? ⟨Y, 6, none⟩ = some x6 ∧ w.cell? ⟨Y, 7, none⟩ = some x7 ∧
    w.frozen? ⟨Y, 0, none⟩ = false ∧ w.frozen? ⟨Y, 1, none⟩ = false ∧ w.frozen? ⟨Y, 2, none⟩ = false ∧ w.frozen? ⟨Y, 3, none⟩ = false ∧ w.frozen? ⟨Y, 4, none⟩ = false ∧ w.frozen? ⟨Y, 5, none⟩ = false ∧ w.frozen? ⟨Y, 6, none⟩ = false ∧ w.frozen? ⟨Y, 7, none⟩ = false :=
  ⟨h.cell (i := 0) rfl, h.cell (i := 1) rfl, h.cell (i := 2) rfl, h.cell (i := 3) rfl, h.cell (i := 4) rfl, h.cell (i := 5) rfl, h.cell (i := 6) rfl, h.cell (i := 7) rfl, h.free 0, h.free 1, h.free 2, h.free 3, h.free 4, h.free 5, h.free 6, h.free 7⟩
theorem SO.new8 {w w2 : World} {B b X Y : Nat} {li g0 u g3 : Int} {soon c t : Nat} (h : SO w B b X li g0 u g3 soon c t) (hY : w.heap.size ≤ Y) (hb : Below w.heap.size w w2) (x0 x1 x2 x3 x4 x5 x6 x7 : Value) : SO ((((((((w2.setCell ⟨Y, 0, none⟩ x0).setCell ⟨Y, 1, none⟩ x1).setCell ⟨Y, 2, none⟩ x2).setCell ⟨Y, 3, none⟩ x3).setCell ⟨Y, 4, none⟩ x4).setCell ⟨Y, 5, none⟩ x5).setCell ⟨Y, 6, none⟩ x6).setCell ⟨Y, 7, none⟩ x7) B b X li g0 u g3 soon c t := by
  obtain ⟨q, bi, bb, bv, e, k, o, v, va, vb, zs, z1, z2, n, m, many, h1, h2, h3⟩ := h
  have hl := h2.1.lt
  exact ⟨q, bi, bb, bv, e, k, o, v, va, vb, zs, z1, z2, n, m, many, (h1.below hb).set8 (fun hm => by have := (h1.lt _ hm).2; omega) _ _ _ _ _ _ _ _, ⟨obj_other8 (h2.1.below hb) (by omega) _ _ _ _ _ _ _ _, h2.2⟩, h3⟩
/-- what a hello comes to: the answer's kind, its number, early or not, the error; and how often early bytes were taken, how many conns were told behind it -/
def SoOut (soon c : Nat) (now u kd n : Int) (eb : Bool) (er : Value) (soon' c' : Nat) : Prop :=
  (∃ c0, c0 ≠ 0 ∧ errV c0 = er ∧ soon = soon' ∧ c = c') ∨ (kd ≠ 1 ∧ false = eb ∧ Value.nilIface = er ∧ soon = soon' ∧ c = c') ∨
    (1 = kd ∧ (c : Int) = n ∧ false = eb ∧ Value.nilIface = er ∧ soon = soon' ∧ c + 1 = c') ∨ (1 = kd ∧ (c : Int) = n ∧ true = eb ∧ Value.nilIface = er ∧ soon = 0 ∧ now ≤ u ∧ 1 = soon' ∧ c + 1 = c')
theorem so_keepD {w2 : World} {X bt ot : Nat} {c0 c1 c2 c3 c4 : Value} (K : w2.cell? ⟨X, 0, none⟩ = some c0 ∧ w2.cell? ⟨X, 1, none⟩ = some c1 ∧ w2.cell? ⟨X, 2, none⟩ = some c2 ∧ w2.cell? ⟨X, 3, none⟩ = some c3 ∧ w2.cell? ⟨bt, ot, none⟩ = some c4) :
    w2.drew.cell? ⟨X, 0, none⟩ = some c0 ∧ w2.drew.cell? ⟨X, 1, none⟩ = some c1 ∧ w2.drew.cell? ⟨X, 2, none⟩ = some c2 ∧ w2.drew.cell? ⟨X, 3, none⟩ = some c3 ∧ w2.drew.cell? ⟨bt, ot, none⟩ = some c4 := K
theorem so_frBelow {w W w' : World} {B b X : Nat} {li g0 u g3 : Int} {soon c t : Nat} (h : SO w B b X li g0 u g3 soon c t) (hW : Below w.heap.size w W) (hb : Below W.heap.size W w') : soFr w W w' B b X li g0 u g3 soon c t :=
  fun _ _ _ hY ho => ⟨ho.below hb, fun _ _ _ _ _ _ _ _ => h.new8 hY (hW.trans (hb.mono hW.size)) _ _ _ _ _ _ _ _⟩
theorem so_helloU {B b X : Nat} {li g0 u g3 : Int} {soon c t : Nat} (hu : tmB u = true) (hc : c < 4000) (w : World) (hB : B ≤ w.heap.size) (h : SO w B b X li g0 u g3 soon c t) (a now : Int) (s : ByteArray) (hsz : s.size ≤ 9223372036854775807) :
    ∃ kd k0 k1 k2 k3 n eb er soon' c', SoOut soon c now u kd n eb er soon' c' ∧ ∀ W, Below w.heap.size w W → Calls Try.prog 6 #[.pointer (some ⟨b, 0, none⟩), soH a g0 u g3 s, .int .i64 now] W fun r w' => r = .returned (.tuple #[soA kd k0 k1 k2 k3 n eb, er]) ∧ SO w' B b X li g0 u g3 soon' c' t ∧ Below B w w' ∧ soFr w W w' B b X li g0 u g3 soon' c' t := by
  rcases so_hello hu hc w hB h a now s hsz with ⟨c0, h0, HC⟩ | ⟨kd, k0, k1, k2, k3, hk, HC⟩ | HC | ⟨hs, hle, HC⟩
  · refine ⟨0, 0, 0, 0, 0, 0, false, errV c0, soon, c, .inl ⟨c0, h0, rfl, rfl, rfl⟩, fun W hW => (HC W hW).mono ?_⟩
    rintro r w' ⟨rfl, hb⟩
    have hw := hW.trans (hb.mono hW.size)
    exact ⟨rfl, h.below hw, hw.mono hB, so_frBelow h hW hb⟩
  · refine ⟨kd, k0, k1, k2, k3, 0, false, .nilIface, soon, c, .inr (.inl ⟨hk, rfl, rfl, rfl, rfl⟩), fun W hW => (HC W hW).mono ?_⟩
    rintro r w' ⟨rfl, hb⟩
    have hw := hW.trans (hb.mono hW.size)
    exact ⟨rfl, h.below hw, hw.mono hB, so_frBelow h hW hb⟩
  · refine ⟨1, 0, 0, 0, 0, (c : Int), false, .nilIface, soon, c + 1, .inr (.inr (.inl ⟨rfl, rfl, rfl, rfl, rfl, rfl⟩)), fun W hW => (HC W hW).mono ?_⟩
    rintro r w' ⟨rfl, h1, h2, h3⟩
    exact ⟨rfl, h1, (hW.mono hB).trans h2, h3⟩
  · refine ⟨1, 0, 0, 0, 0, (c : Int), true, .nilIface, 1, c + 1, .inr (.inr (.inr ⟨rfl, rfl, rfl, rfl, hs, hle, rfl, rfl⟩)), fun W hW => (HC W hW).mono ?_⟩
    rintro r w' ⟨rfl, h1, h2, h3⟩
    exact ⟨rfl, h1, (hW.mono hB).trans h2, h3⟩
end Go.Proofs.Ytlnehoedflbifaa
