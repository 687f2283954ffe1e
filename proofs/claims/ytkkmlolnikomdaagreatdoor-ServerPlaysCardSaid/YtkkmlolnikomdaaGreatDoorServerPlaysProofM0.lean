/- An error as its number: 0 is nil. How the walk asks it for nil. Objects of the call's own: a block known whole; what is kept behind calls that touch only some blocks. Over any program. Objects of four cells, stored anew. slices.IndexFunc, slices.ContainsFunc at []api.Spent; spent.Is: by contracts. -/
import Derived.Test.YtkkmlolnikomdaaGreatDoorProg
import Derived.WalkKit
import Derived.OneCell
import Derived.Below
import Derived.Deep.Draws
import Derived.Deep.QuietTactic
import Derived.Handy
import Derived.Shelf.Abstract
namespace Go.Proofs.YtkkmlolnikomdaaGreatDoor
open Go.RowKit

theorem retB {a b : Bool} (h : a = b) : Ending.returned (.bool a) = .returned (.bool b) := by rw [h]
theorem retI {k : IntKind} {a b : Int} (h : a = b) : Ending.returned (.int k a) = .returned (.int k b) := by rw [h]
theorem retIE {k : IntKind} {a b : Int} {x y : Value} (h : a = b) (h2 : x = y) : Ending.returned (.tuple #[.int k a, x]) = .returned (.tuple #[.int k b, y]) := by rw [h, h2]

/-- The error of number c: nil, or the Errno. -/
def errV (c : Int) : Value := if c = 0 then .nilIface else .iface 71 (.int .i64 c)
theorem errV_0 : errV 0 = .nilIface := rfl
theorem errV_ne {c : Int} (h : c ≠ 0) : errV c = .iface 71 (.int .i64 c) := if_neg h
theorem errV_1 : Value.iface 71 (.int .i64 1) = errV 1 := rfl
theorem errV_3 : Value.iface 71 (.int .i64 3) = errV 3 := rfl
theorem errV_4 : Value.iface 71 (.int .i64 4) = errV 4 := rfl
theorem errV_5 : Value.iface 71 (.int .i64 5) = errV 5 := rfl
theorem errV_6 : Value.iface 71 (.int .i64 6) = errV 6 := rfl
theorem errV_7 : Value.iface 71 (.int .i64 7) = errV 7 := rfl
theorem errV_8 : Value.iface 71 (.int .i64 8) = errV 8 := rfl
theorem errV_9 : Value.iface 71 (.int .i64 9) = errV 9 := rfl

theorem Tryz.errIface : Tryz.prog.underlying 27 = some (.interface (Tryz.prog.methodsAt 27)) := by kernel_rfl
theorem run_neq_errV (c : Int) (w : World) : (binOp .neq 27 (errV c) .nilIface).run Tryz.prog w = .ok (.bool (c != 0)) w := by
  by_cases h : c = 0
  · subst h; exact run_neq_nil_nil w 27 Tryz.errIface
  · rw [errV_ne h, run_neq_held_nil w 27 _ _ Tryz.errIface]
    congr 1; congr 1; exact (bne_iff_ne.2 h).symm
theorem run_eql_errV (c : Int) (w : World) : (binOp .eql 27 (errV c) .nilIface).run Tryz.prog w = .ok (.bool (c == 0)) w := by
  by_cases h : c = 0
  · subst h; exact run_eql_nil_nil w 27 Tryz.errIface
  · rw [errV_ne h, run_eql_held_nil w 27 _ _ Tryz.errIface]
    congr 1; congr 1; exact (beq_eq_false_iff_ne.2 h).symm
theorem run_guard_errV (op : BinOp) (c : Int) (w : World) (x : Operand) : (eqGuard op 27 x (.const .nilIface) (errV c) .nilIface).run Tryz.prog w = .ok () w := by
  by_cases h : c = 0
  · subst h; rw [errV_0]; cases op <;> simp [go_sem, eqGuard]
  · rw [errV_ne h]; cases op <;> simp [go_sem, eqGuard]
attribute [go_sem] run_neq_errV run_eql_errV run_guard_errV
end Go.Proofs.YtkkmlolnikomdaaGreatDoor

namespace Go.Proofs.YtkkmlolnikomdaaGreatDoor
open Go.RowKit

theorem hide {p : Prop} (h : p) : Hid p := h

/-- Block b is a variable of type t whose cells are cs, none of them frozen. -/
def ObjAt (w : World) (b : Nat) (t : TypeId) (cs : List Value) : Prop := w.heap[b]? = some (.cells cs.toArray t (0, 0))

theorem ObjAt.lt {w : World} {b : Nat} {t : TypeId} {cs : List Value} (h : ObjAt w b t cs) : b < w.heap.size := lt_of_block h
theorem ObjAt.cell {w : World} {b : Nat} {t : TypeId} {cs : List Value} (h : ObjAt w b t cs) {i : Nat} {v : Value} (hi : cs[i]? = some v) : w.cell? ⟨b, i, none⟩ = some v := by
  have h' : w.heap[b]? = some (.cells cs.toArray t (0, 0)) := h
  simp [World.cell?, h', hi]
theorem ObjAt.free {w : World} {b : Nat} {t : TypeId} {cs : List Value} (h : ObjAt w b t cs) (i : Nat) : w.frozen? ⟨b, i, none⟩ = false := by
  have h' : w.heap[b]? = some (.cells cs.toArray t (0, 0)) := h
  simp [World.frozen?, h']
theorem ObjAt.new (w : World) (t : TypeId) (cs : List Value) : ObjAt (w.alloc (.cells cs.toArray t)) w.heap.size t cs := by
  show (w.heap.push _)[w.heap.size]? = _
  simp
theorem ObjAt.alloc {w : World} {b : Nat} {t : TypeId} {cs : List Value} (h : ObjAt w b t cs) (o : Obj) : ObjAt (w.alloc o) b t cs :=
  (Below.heap_alloc w o b h.lt).trans h
theorem ObjAt.drew {w : World} {b : Nat} {t : TypeId} {cs : List Value} (h : ObjAt w b t cs) : ObjAt w.drew b t cs := h
theorem ObjAt.drewN {w : World} {b : Nat} {t : TypeId} {cs : List Value} (h : ObjAt w b t cs) (n : Nat) : ObjAt (w.drewN n) b t cs := h
theorem ObjAt.setOther {w : World} {b : Nat} {t : TypeId} {cs : List Value} (h : ObjAt w b t cs) {a : Addr} (ha : b ≠ a.block) (u : Value) : ObjAt (w.setCell a u) b t cs :=
  (Below.heap_setCell w a u b ha).trans h
theorem ObjAt.set {w : World} {b : Nat} {t : TypeId} {cs : List Value} (h : ObjAt w b t cs) (i : Nat) (u : Value) : ObjAt (w.setCell ⟨b, i, none⟩ u) b t (cs.set i u) := by
  have hlt := h.lt
  have h0 : w.heap[b]? = some (.cells cs.toArray t (0, 0)) := h
  have h' : w.heap[b] = .cells cs.toArray t (0, 0) := by simpa [Array.getElem?_eq_getElem hlt] using h0
  show (w.heap.modify b _)[b]? = _
  rw [Array.getElem?_eq_getElem (by simpa using hlt), Array.getElem_modify_self, h']
  simp

/-- Of the blocks that were there only those in S may have turned. -/
structure Kept (S : List Nat) (w w' : World) : Prop where
  os : w'.os = w.os
  tape : w'.tape = w.tape
  output : w'.output = w.output
  size : w.heap.size ≤ w'.heap.size
  block : ∀ k, k < w.heap.size → k ∉ S → w'.heap[k]? = w.heap[k]?

theorem Kept.refl (S : List Nat) (w : World) : Kept S w w := ⟨rfl, rfl, rfl, Nat.le_refl _, fun _ _ _ => rfl⟩
theorem Kept.trans {S : List Nat} {a b c : World} (h : Kept S a b) (k : Kept S b c) : Kept S a c :=
  ⟨k.os.trans h.os, k.tape.trans h.tape, k.output.trans h.output, Nat.le_trans h.size k.size, fun i hi hs => (k.block i (Nat.lt_of_lt_of_le hi h.size) hs).trans (h.block i hi hs)⟩
theorem Kept.mono {S S' : List Nat} {a b : World} (h : Kept S a b) (hs : ∀ x, x ∈ S → x ∈ S') : Kept S' a b :=
  ⟨h.os, h.tape, h.output, h.size, fun i hi hn => h.block i hi (fun hx => hn (hs i hx))⟩
theorem Kept.of_below {w w' : World} (h : Below w.heap.size w w') (S : List Nat) : Kept S w w' := ⟨h.os, h.tape, h.output, h.size, fun i hi _ => h.block i hi⟩
theorem Kept.drew {S : List Nat} {a w : World} (h : Kept S a w) : Kept S a w.drew := ⟨h.os, h.tape, h.output, h.size, h.block⟩
theorem Kept.drewN {S : List Nat} {a w : World} (h : Kept S a w) (n : Nat) : Kept S a (w.drewN n) := ⟨h.os, h.tape, h.output, h.size, h.block⟩
theorem Kept.alloc {S : List Nat} {a w : World} (h : Kept S a w) (o : Obj) : Kept S a (w.alloc o) :=
  h.trans ⟨rfl, rfl, rfl, by simp, fun k hk _ => Below.heap_alloc _ _ _ hk⟩
/-- a store into one of S, or into a block that is new -/
theorem Kept.setCell {S : List Nat} {a w : World} (h : Kept S a w) {p : Addr} (hp : p.block ∈ S ∨ a.heap.size ≤ p.block) (u : Value) : Kept S a (w.setCell p u) :=
  ⟨h.os, h.tape, h.output, by simpa [World.setCell] using h.size, fun k hk hn => (Below.heap_setCell w p u k (by
    rintro rfl
    rcases hp with hp | hp
    · exact hn hp
    · omega)).trans (h.block k hk hn)⟩
/-- a step that may turn blocks of its own S1: each of them in S, or new -/
theorem Kept.step {S S1 : List Nat} {a b c : World} (h : Kept S a b) (k : Kept S1 b c) (hs : ∀ x, x ∈ S1 → x ∈ S ∨ a.heap.size ≤ x) : Kept S a c :=
  ⟨k.os.trans h.os, k.tape.trans h.tape, k.output.trans h.output, Nat.le_trans h.size k.size, fun i hi hn => (k.block i (Nat.lt_of_lt_of_le hi h.size) (fun hx => by
    rcases hs i hx with h1 | h1
    · exact hn h1
    · omega)).trans (h.block i hi hn)⟩
theorem Kept.grown {S : List Nat} {a w w' : World} {row : Option Nat} (h : Kept S a w) (hg : w.grownBy w' row) (hr : ∀ k, row = some k → k ∈ S ∨ a.heap.size ≤ k) : Kept S a w' :=
  h.step (S1 := row.toList) ⟨hg.os, hg.tape, hg.output, hg.size, fun k hk hn => hg.block k hk (fun e => hn (by simp [← e]))⟩ (fun x hx => hr x (by simpa using hx))
/-- What turns only new blocks, or none, leaves below B all as it was. -/
theorem Kept.below {S : List Nat} {a b : World} {B : Nat} (h : Kept S a b) (hB : B ≤ a.heap.size) (hs : ∀ x, x ∈ S → B ≤ x) : Below B a b :=
  ⟨h.os, h.tape, h.output, h.size, fun k hk => h.block k (by omega) (fun hx => by have := hs k hx; omega)⟩
theorem Kept.obj {S : List Nat} {a b : World} (h : Kept S a b) {k : Nat} {t : TypeId} {cs : List Value} (ho : ObjAt a k t cs) (hn : k ∉ S) : ObjAt b k t cs := (h.block k ho.lt hn).trans ho
theorem Kept.cell {S : List Nat} {a b : World} (h : Kept S a b) {p : Addr} (hp : p.block < a.heap.size) (hn : p.block ∉ S) : b.cell? p = a.cell? p := World.cell?_of_block (w := a) (h.block p.block hp hn)
theorem Kept.frozen {S : List Nat} {a b : World} (h : Kept S a b) {p : Addr} (hp : p.block < a.heap.size) (hn : p.block ∉ S) : b.frozen? p = a.frozen? p := World.frozen?_of_block (w := a) (h.block p.block hp hn)
/-- a step that turned only one block, which is no older than B -/
theorem bel_kept1 {B : Nat} {a b c : World} {k : Nat} (h : Below B a b) (hk : Kept [k] b c) (hB : B ≤ k) (hB2 : B ≤ b.heap.size) : Below B a c :=
  h.trans (hk.below hB2 (fun x hx => by have : x = k := by simpa using hx
                                        omega))
theorem bel_kept {B : Nat} {a b c : World} (h : Below B a b) (hk : Kept [B] b c) (hB : B ≤ a.heap.size := by exact Nat.le_refl _) : Below B a c :=
  bel_kept1 h hk (Nat.le_refl _) (Nat.le_trans hB h.size)
theorem bcell {W w1 : World} (hb : Below W.heap.size W w1) : (∀ b o, b < W.heap.size → w1.cell? ⟨b, o, none⟩ = W.cell? ⟨b, o, none⟩) ∧ (∀ b o, b < W.heap.size → w1.frozen? ⟨b, o, none⟩ = W.frozen? ⟨b, o, none⟩) :=
  ⟨fun b o h => hb.cell (p := ⟨b, o, none⟩) h, fun b o h => hb.frozen (p := ⟨b, o, none⟩) h⟩
theorem bel_drewN {B : Nat} {a w : World} (h : Below B a w) (n : Nat) : Below B a (w.drewN n) := ⟨h.os, h.tape, h.output, h.size, h.block⟩
/-- a call behind one new block -/
theorem bel_a1 {w w1 : World} {o : Obj} (h : Below (w.alloc o).heap.size (w.alloc o) w1) : Below w.heap.size w w1 := ((Below.refl _ _).alloc (Nat.le_refl _) o).trans (h.mono (by simp))
theorem bel_a2 {w w1 : World} {o o2 : Obj} (h : Below ((w.alloc o).alloc o2).heap.size ((w.alloc o).alloc o2) w1) : Below w.heap.size w w1 := bel_a1 (bel_a1 h)
theorem bel_a3 {w w1 : World} {o o2 o3 : Obj} (h : Below (((w.alloc o).alloc o2).alloc o3).heap.size (((w.alloc o).alloc o2).alloc o3) w1) : Below w.heap.size w w1 := bel_a1 (bel_a2 h)
theorem ObjAt.below {w w' : World} {b : Nat} {t : TypeId} {cs : List Value} (h : ObjAt w b t cs) (hb : Below w.heap.size w w') : ObjAt w' b t cs := (hb.block b h.lt).trans h
theorem drew_cell (X : World) (a : Addr) : X.drew.cell? a = X.cell? a := rfl
theorem drewN_cell (X : World) (n : Nat) (a : Addr) : (X.drewN n).cell? a = X.cell? a := rfl
theorem objNew {X : World} {b : Nat} {t : TypeId} {cs : List Value} (h : b = X.heap.size) : ObjAt (X.alloc (.cells cs.toArray t)) b t cs := by subst h; exact ObjAt.new _ _ _
theorem ObjAt.other4 {w : World} {b c : Nat} {t : TypeId} {cs : List Value} {v0 v1 v2 v3 : Value} (h : ObjAt w b t cs) (hn : b ≠ c) : ObjAt ((((w.setCell ⟨c, 0, none⟩ v0).setCell ⟨c, 1, none⟩ v1).setCell ⟨c, 2, none⟩ v2).setCell ⟨c, 3, none⟩ v3) b t cs :=
  (((h.setOther hn v0).setOther hn v1).setOther hn v2).setOther hn v3
theorem Kept.new4 {S : List Nat} {a w : World} {c : Nat} {v0 v1 v2 v3 : Value} (h : Kept S a w) (hn : c ∈ S ∨ a.heap.size ≤ c) : Kept S a ((((w.setCell ⟨c, 0, none⟩ v0).setCell ⟨c, 1, none⟩ v1).setCell ⟨c, 2, none⟩ v2).setCell ⟨c, 3, none⟩ v3) :=
  (((h.setCell hn v0).setCell hn v1).setCell hn v2).setCell hn v3
theorem bel_trans {B : Nat} {a b c : World} (h : Below B a b) (k : Below b.heap.size b c) (hB : B ≤ b.heap.size) : Below B a c := h.trans (k.mono hB)
theorem quiet_left {P : Program} {f : FuncId} {args : Array Value} {w : World} {n : Nat} {v : Value}
    (h : Calls P f args (w.drewN n) fun e w' => e = .returned v ∧ w.drewN n = w') : Calls P f args (w.drewN n) fun e w'' => e = .returned v ∧ ∃ m, w'' = w.drewN m :=
  h.mono fun _ _ ⟨he, hm⟩ => ⟨he, n, hm.symm⟩
theorem quiet_add_left {P : Program} {f : FuncId} {args : Array Value} {w : World} {a n : Nat} {v : Value}
    (h : Calls P f args (w.drewN (a + n)) fun e w' => e = .returned v ∧ w.drewN (a + n) = w') :
    Calls P f args (w.drewN (a + n)) fun e w'' => e = .returned v ∧ ∃ m, w'' = w.drewN (a + m) :=
  h.mono fun _ _ ⟨he, hm⟩ => ⟨he, n, hm.symm⟩
end Go.Proofs.YtkkmlolnikomdaaGreatDoor

namespace Go.Proofs.YtkkmlolnikomdaaGreatDoor
open Go.RowKit
theorem ObjAt.set4 {w : World} {b : Nat} {t : TypeId} {a0 a1 a2 a3 v0 v1 v2 v3 : Value} (h : ObjAt w b t [a0, a1, a2, a3]) :
    ObjAt ((((w.setCell ⟨b, 0, none⟩ v0).setCell ⟨b, 1, none⟩ v1).setCell ⟨b, 2, none⟩ v2).setCell ⟨b, 3, none⟩ v3) b t [v0, v1, v2, v3] :=
  (((h.set 0 v0).set 1 v1).set 2 v2).set 3 v3
theorem Below.set4 {B : Nat} {a w : World} {c : Nat} {v0 v1 v2 v3 : Value} (h : Below B a w) (hc : B ≤ c) :
    Below B a ((((w.setCell ⟨c, 0, none⟩ v0).setCell ⟨c, 1, none⟩ v1).setCell ⟨c, 2, none⟩ v2).setCell ⟨c, 3, none⟩ v3) :=
  (((h.setCell hc v0).setCell hc v1).setCell hc v2).setCell hc v3
theorem ObjAt.set3 {w : World} {b : Nat} {t : TypeId} {a0 a1 a2 v0 v1 v2 : Value} (h : ObjAt w b t [a0, a1, a2]) :
    ObjAt (((w.setCell ⟨b, 0, none⟩ v0).setCell ⟨b, 1, none⟩ v1).setCell ⟨b, 2, none⟩ v2) b t [v0, v1, v2] :=
  ((h.set 0 v0).set 1 v1).set 2 v2
theorem Below.set3 {B : Nat} {a w : World} {c : Nat} {v0 v1 v2 : Value} (h : Below B a w) (hc : B ≤ c) :
    Below B a (((w.setCell ⟨c, 0, none⟩ v0).setCell ⟨c, 1, none⟩ v1).setCell ⟨c, 2, none⟩ v2) :=
  ((h.setCell hc v0).setCell hc v1).setCell hc v2
theorem ObjAt.other3 {w : World} {b c : Nat} {t : TypeId} {cs : List Value} {v0 v1 v2 : Value} (h : ObjAt w b t cs) (hn : b ≠ c) :
    ObjAt (((w.setCell ⟨c, 0, none⟩ v0).setCell ⟨c, 1, none⟩ v1).setCell ⟨c, 2, none⟩ v2) b t cs :=
  ((h.setOther hn v0).setOther hn v1).setOther hn v2
theorem ObjAt.set2 {w : World} {b : Nat} {t : TypeId} {a0 a1 v0 v1 : Value} (h : ObjAt w b t [a0, a1]) :
    ObjAt ((w.setCell ⟨b, 0, none⟩ v0).setCell ⟨b, 1, none⟩ v1) b t [v0, v1] :=
  (h.set 0 v0).set 1 v1
theorem Below.set2 {B : Nat} {a w : World} {c : Nat} {v0 v1 : Value} (h : Below B a w) (hc : B ≤ c) :
    Below B a ((w.setCell ⟨c, 0, none⟩ v0).setCell ⟨c, 1, none⟩ v1) :=
  (h.setCell hc v0).setCell hc v1
theorem ObjAt.other2 {w : World} {b c : Nat} {t : TypeId} {cs : List Value} {v0 v1 : Value} (h : ObjAt w b t cs) (hn : b ≠ c) :
    ObjAt ((w.setCell ⟨c, 0, none⟩ v0).setCell ⟨c, 1, none⟩ v1) b t cs :=
  (h.setOther hn v0).setOther hn v1
theorem kcell {S : List Nat} {W w1 : World} (hk : Kept S W w1) : (∀ b o, b < W.heap.size → b ∉ S → w1.cell? ⟨b, o, none⟩ = W.cell? ⟨b, o, none⟩) ∧ (∀ b o, b < W.heap.size → b ∉ S → w1.frozen? ⟨b, o, none⟩ = W.frozen? ⟨b, o, none⟩) :=
  ⟨fun b o h hn => hk.cell (p := ⟨b, o, none⟩) h hn, fun b o h hn => hk.frozen (p := ⟨b, o, none⟩) h hn⟩
end Go.Proofs.YtkkmlolnikomdaaGreatDoor

namespace Go.Proofs.YtkkmlolnikomdaaGreatDoor
open Go.RowKit

/-- The cells of some pairs. -/
def PC (w : World) (b off : Nat) (zs : List (Int × Int)) : Prop := ∀ j, j < zs.length → w.cell? ⟨b, off + j * 2, none⟩ = some (.int .i64 (zs.getD j (0, 0)).1) ∧ w.cell? ⟨b, off + j * 2 + 1, none⟩ = some (.int .i64 (zs.getD j (0, 0)).2)
/-- A slice of pairs. -/
def PSl (w : World) (v : Value) (zs : List (Int × Int)) : Prop := zs.length ≤ 1000 ∧ ((zs = [] ∧ ∃ a c, v = .slice a 0 c) ∨ ∃ b off c, v = .slice (some ⟨b, off, none⟩) zs.length c ∧ zs.length ≤ c ∧ b < w.heap.size ∧ PC w b off zs)
theorem PC.below {w w' : World} {b off : Nat} {zs : List (Int × Int)} (h : PC w b off zs) (hb : b < w.heap.size) (hB : Below w.heap.size w w') : PC w' b off zs :=
  fun j hj => ⟨(hB.cell (p := ⟨b, off + j * 2, none⟩) hb).trans (h j hj).1, (hB.cell (p := ⟨b, off + j * 2 + 1, none⟩) hb).trans (h j hj).2⟩
theorem PSl.below {w w' : World} {v : Value} {zs : List (Int × Int)} (h : PSl w v zs) (hB : Below w.heap.size w w') : PSl w' v zs := by
  refine ⟨h.1, ?_⟩
  rcases h.2 with h | ⟨b, off, c, h1, h2, h3, h4⟩
  · exact .inl h
  · exact .inr ⟨b, off, c, h1, h2, Nat.lt_of_lt_of_le h3 hB.size, h4.below h3 hB⟩
/-- what is asked of a predicate: it leaves all that lay there -/
def PredB (g : Nat) (lb : Array Value) (p : Int × Int → Bool) (w : World) : Prop :=
  ∀ (W : World) (x : Int × Int), Below w.heap.size w W → Calls Tryz.prog g (#[.agg #[.int .i64 x.1, .int .i64 x.2]] ++ lb) W fun e w' => e = .returned (.bool (p x)) ∧ Below W.heap.size W w'
/-- where it first holds; below 0: nowhere -/
def idxP (p : Int × Int → Bool) (zs : List (Int × Int)) : Int := if zs.findIdx p < zs.length then (zs.findIdx p : Int) else -1
theorem idxP_hit {p : Int × Int → Bool} {zs : List (Int × Int)} {k : Nat} (hk : k < zs.length) (h : p (zs.getD k (0, 0)) = true) (hb : ∀ j, j < k → p (zs.getD j (0, 0)) = false) : idxP p zs = k := by
  have e : zs.findIdx p = k := by
    rw [List.findIdx_eq hk]
    refine ⟨by simpa [List.getD, List.getElem?_eq_getElem hk] using h, fun j hj => ?_⟩
    have := hb j hj
    simpa [List.getD, List.getElem?_eq_getElem (Nat.lt_trans hj hk)] using this
  unfold idxP
  rw [e, if_pos hk]
theorem idxP_miss {p : Int × Int → Bool} {zs : List (Int × Int)} (hb : ∀ j, j < zs.length → p (zs.getD j (0, 0)) = false) : idxP p zs = -1 := by
  unfold idxP
  rw [if_neg]
  rw [List.findIdx_lt_length]
  rintro ⟨x, hx, hp⟩
  obtain ⟨j, hj, rfl⟩ := List.mem_iff_getElem.1 hx
  have := hb j hj
  simp [List.getD, List.getElem?_eq_getElem hj, hp] at this
theorem idxP_any (p : Int × Int → Bool) (zs : List (Int × Int)) : decide (0 ≤ idxP p zs) = zs.any p := by
  unfold idxP
  by_cases h : zs.findIdx p < zs.length
  · rw [if_pos h]
    have := List.findIdx_lt_length.1 h
    rw [decide_eq_true (by omega)]
    symm; rw [List.any_eq_true]; exact this
  · rw [if_neg h]
    rw [List.findIdx_lt_length] at h
    symm
    rw [show decide ((0 : Int) ≤ -1) = false from rfl, List.any_eq_false]
    exact fun x hx hp => h ⟨x, hx, hp⟩
set_option maxHeartbeats 2000000 in
theorem spIndexFunc (p : Int × Int → Bool) (g : Nat) (lb : Array Value) (eg : ∀ args w, (callFunc g args).run Tryz.prog w = .ok (.enter g args) w) (v : Value) (zs : List (Int × Int)) (w : World) (hv : PSl w v zs) (hp : PredB g lb p w) :
    Calls Tryz.prog 89 #[v, .func (.func g) #[] lb] w fun e w' => e = .returned (.int .i64 (idxP p zs)) ∧ Below w.heap.size w w' := by
  obtain ⟨hl, ⟨rfl, a, c, rfl⟩ | ⟨b, off, c, rfl, hc, hb, hpc⟩⟩ := hv
  · go_enter Tryz.func89, Tryz.ntmps89
    go_wp2
    go_rounds 1
    go_ret
    exact ⟨rfl, Below.refl _ _⟩
  · obtain ⟨n, hn⟩ : ∃ n, n = zs.length := ⟨_, rfl⟩
    rw [← hn] at hl hc ⊢
    have Hn := hide hn
    have HPC := hide hpc
    have HP := hide hp
    clear hn hpc hp
    go_enter Tryz.func89, Tryz.ntmps89
    go_wp2_with fail
    go_loopw [5, 8] (fun _ i wr => ∃ k : Nat, i = .int .i64 (k : Int) ∧ k ≤ n ∧ Hid (∀ j, j < k → p (zs.getD j (0, 0)) = false) ∧ Below w.heap.size w wr) (fun _ i _ => 2000 - (intOf i).toNat)
    case atStart => exact ⟨0, rfl, by omega, hide (fun j hj => by omega), Below.refl _ _⟩
    case round =>
      obtain ⟨k, rfl, hk, hall, hbw⟩ := hrel
      by_cases hlt : k < n
      · have hc2 := HPC.out.below hb hbw k (by rw [← Hn.out]; exact hlt)
        obtain ⟨q0, q1⟩ := hc2
        have hcall := HP.out wr (zs.getD k (0, 0)) hbw
        obtain ⟨y, hy⟩ : ∃ y, y = zs.getD k (0, 0) := ⟨_, rfl⟩
        rw [← hy] at q0 q1 hcall
        have HY := hide hy
        clear hy
        obtain ⟨y1, y2⟩ := y
        simp only at q0 q1 hcall
        have HC := hide hcall
        clear hcall
        cases hq : p (y1, y2)
        · rw [hq] at HC
          have Hq := hide hq
          clear hq
          go_wp2_with fail
          refine HC.out.mono ?_
          rintro e w' ⟨rfl, hb'⟩
          go_wp2
          go_roundw
          case rel =>
            refine ⟨k + 1, by go_num, by omega, hide (fun j hj => ?_), hbw.trans (hb'.mono hbw.size)⟩
            by_cases e : j = k
            · rw [e, ← HY.out]; exact Hq.out
            · exact hall.out j (by omega)
          case measure => simp [intOf] <;> omega
        · rw [hq] at HC
          have Hq := hide hq
          clear hq
          go_wp2_with fail
          refine HC.out.mono ?_
          rintro e w' ⟨rfl, hb'⟩
          go_wp2
          go_ret
          exact ⟨by rw [idxP_hit (by rw [← Hn.out]; exact hlt) (by rw [← HY.out]; exact Hq.out) hall.out]; rfl, hbw.trans (hb'.mono hbw.size)⟩
      · obtain rfl : k = n := by omega
        go_wp2
        go_ret
        exact ⟨by rw [idxP_miss (by rw [← Hn.out]; exact hall.out)]; rfl, hbw⟩
theorem spContainsFunc (p : Int × Int → Bool) (g : Nat) (lb : Array Value) (eg : ∀ args w, (callFunc g args).run Tryz.prog w = .ok (.enter g args) w) (v : Value) (zs : List (Int × Int)) (w : World) (hv : PSl w v zs) (hp : PredB g lb p w) :
    Calls Tryz.prog 87 #[v, .func (.func g) #[] lb] w fun e w' => e = .returned (.bool (zs.any p)) ∧ Below w.heap.size w w' := by
  have C := hide (spIndexFunc p g lb eg v zs w hv hp)
  have HA := hide (idxP_any p zs)
  generalize idxP p zs = r at C HA
  clear hp hv
  go_enter Tryz.func87, Tryz.ntmps87
  go_wp2_with fail
  refine C.out.mono ?_
  rintro e w1 ⟨rfl, hb1⟩
  go_wp2
  go_ret
  exact ⟨retB HA.out, hb1⟩
/-- the closure of Is: is it that number? -/
theorem spIsPred (n : Int) (B : Nat) (w : World) (hB : B < w.heap.size) (hcell : w.cell? ⟨B, 0, none⟩ = some (.int .i64 n)) :
    PredB 88 #[.pointer (some ⟨B, 0, none⟩)] (fun x => x.1 == n) w := fun W x hb => by
  have hc : W.cell? ⟨B, 0, none⟩ = some (.int .i64 n) := (hb.cell (p := ⟨B, 0, none⟩) hB).trans hcell
  have hBW : B < W.heap.size := Nat.lt_of_lt_of_le hB hb.size
  have hne : B ≠ W.heap.size := by omega
  show Calls Tryz.prog 88 #[.agg #[.int .i64 x.1, .int .i64 x.2], .pointer (some ⟨B, 0, none⟩)] W _
  obtain ⟨x1, x2⟩ := x
  clear hcell
  go_enter Tryz.func88, Tryz.ntmps88
  go_wp2
  all_goals (go_ret; exact ⟨rfl, by go_grown⟩)
/-- is a number spent? -/
theorem spIs (n : Int) (v : Value) (zs : List (Int × Int)) (w : World) (hv : PSl w v zs) :
    Calls Tryz.prog 84 #[v, .int .i64 n] w fun e w' => e = .returned (.bool (zs.any (fun x => x.1 == n))) ∧ Below w.heap.size w w' := by
  have eg : ∀ args w, (callFunc 88 args).run Tryz.prog w = .ok (.enter 88 args) w := enters_of Tryz.func88 (by kernel_rfl) rfl
  have C := hide (spContainsFunc (fun x => x.1 == n) 88 #[.pointer (some ⟨w.heap.size, 0, none⟩)] eg v zs (w.alloc (.cells #[.int .i64 n] 3)) (hv.below ((Below.refl _ _).alloc (Nat.le_refl _) _)) (spIsPred n w.heap.size _ (by simp) (by simp)))
  clear hv
  generalize zs.any (fun x => x.1 == n) = r at C ⊢
  go_enter Tryz.func84, Tryz.ntmps84
  go_wp2_with fail
  refine C.out.mono ?_
  rintro e w1 ⟨rfl, hb1⟩
  go_wp2
  go_ret
  exact ⟨rfl, bel_a1 hb1⟩
end Go.Proofs.YtkkmlolnikomdaaGreatDoor
