/- Objects of the call's own: a block known whole; what is kept behind calls that touch only some blocks. Over any program. -/
import Derived.WalkKit
import Derived.OneCell
import Derived.Below
import Derived.Deep.Draws
import Derived.Deep.QuietTactic
namespace Go.Proofs.YtlnghfmcofmkjaaGreatDoor
open Go.RowKit

theorem hide {p : Prop} (h : p) : Hid p := h

/-- Block b is a variable of type t whose cells are cs, none of them frozen. -/
def ObjAt (w : World) (b : Nat) (t : TypeId) (cs : List Value) : Prop := w.heap[b]? = some (.cells cs.toArray t (0, 0))

theorem ObjAt.lt {w : World} {b : Nat} {t : TypeId} {cs : List Value} (h : ObjAt w b t cs) : b < w.heap.size := lt_of_block h
theorem ObjAt.cell {w : World} {b : Nat} {t : TypeId} {cs : List Value} (h : ObjAt w b t cs) {i : Nat} {v : Value} (hi : cs[i]? = some v) : w.cell? ⟨b, i, none⟩ = some v := by
  have h' : w.heap[b]? = some (.cells cs.toArray t (0, 0)) := h
  simp [World.cell?, h', hi]
theorem ObjAt.free {w : World} {b : Nat} {t : TypeId} {cs : List Value} (h : ObjAt w b t cs) (i : Nat) : w.frozen? ⟨b, i, none⟩ = false := by
  have h' : w.heap[b]? = some (.cells cs.toArray t (0, 0)) := h
  simp [World.frozen?, h']
theorem ObjAt.new (w : World) (t : TypeId) (cs : List Value) : ObjAt (w.alloc (.cells cs.toArray t)) w.heap.size t cs := by
  show (w.heap.push _)[w.heap.size]? = _
  simp
theorem ObjAt.alloc {w : World} {b : Nat} {t : TypeId} {cs : List Value} (h : ObjAt w b t cs) (o : Obj) : ObjAt (w.alloc o) b t cs :=
  (Below.heap_alloc w o b h.lt).trans h
theorem ObjAt.drew {w : World} {b : Nat} {t : TypeId} {cs : List Value} (h : ObjAt w b t cs) : ObjAt w.drew b t cs := h
theorem ObjAt.drewN {w : World} {b : Nat} {t : TypeId} {cs : List Value} (h : ObjAt w b t cs) (n : Nat) : ObjAt (w.drewN n) b t cs := h
theorem ObjAt.setOther {w : World} {b : Nat} {t : TypeId} {cs : List Value} (h : ObjAt w b t cs) {a : Addr} (ha : b ≠ a.block) (u : Value) : ObjAt (w.setCell a u) b t cs :=
  (Below.heap_setCell w a u b ha).trans h
theorem ObjAt.set {w : World} {b : Nat} {t : TypeId} {cs : List Value} (h : ObjAt w b t cs) (i : Nat) (u : Value) : ObjAt (w.setCell ⟨b, i, none⟩ u) b t (cs.set i u) := by
  have hlt := h.lt
  have h0 : w.heap[b]? = some (.cells cs.toArray t (0, 0)) := h
  have h' : w.heap[b] = .cells cs.toArray t (0, 0) := by simpa [Array.getElem?_eq_getElem hlt] using h0
  show (w.heap.modify b _)[b]? = _
  rw [Array.getElem?_eq_getElem (by simpa using hlt), Array.getElem_modify_self, h']
  simp

/-- Of the blocks that were there only those in S may have turned. -/
structure Kept (S : List Nat) (w w' : World) : Prop where
  os : w'.os = w.os
  tape : w'.tape = w.tape
  output : w'.output = w.output
  size : w.heap.size ≤ w'.heap.size
  block : ∀ k, k < w.heap.size → k ∉ S → w'.heap[k]? = w.heap[k]?

theorem Kept.refl (S : List Nat) (w : World) : Kept S w w := ⟨rfl, rfl, rfl, Nat.le_refl _, fun _ _ _ => rfl⟩
theorem Kept.trans {S : List Nat} {a b c : World} (h : Kept S a b) (k : Kept S b c) : Kept S a c :=
  ⟨k.os.trans h.os, k.tape.trans h.tape, k.output.trans h.output, Nat.le_trans h.size k.size, fun i hi hs => (k.block i (Nat.lt_of_lt_of_le hi h.size) hs).trans (h.block i hi hs)⟩
theorem Kept.mono {S S' : List Nat} {a b : World} (h : Kept S a b) (hs : ∀ x, x ∈ S → x ∈ S') : Kept S' a b :=
  ⟨h.os, h.tape, h.output, h.size, fun i hi hn => h.block i hi (fun hx => hn (hs i hx))⟩
theorem Kept.of_below {w w' : World} (h : Below w.heap.size w w') (S : List Nat) : Kept S w w' := ⟨h.os, h.tape, h.output, h.size, fun i hi _ => h.block i hi⟩
theorem Kept.drew {S : List Nat} {a w : World} (h : Kept S a w) : Kept S a w.drew := ⟨h.os, h.tape, h.output, h.size, h.block⟩
theorem Kept.drewN {S : List Nat} {a w : World} (h : Kept S a w) (n : Nat) : Kept S a (w.drewN n) := ⟨h.os, h.tape, h.output, h.size, h.block⟩
theorem Kept.alloc {S : List Nat} {a w : World} (h : Kept S a w) (o : Obj) : Kept S a (w.alloc o) :=
  h.trans ⟨rfl, rfl, rfl, by simp, fun k hk _ => Below.heap_alloc _ _ _ hk⟩
/-- a store into one of S, or into a block that is new -/
theorem Kept.setCell {S : List Nat} {a w : World} (h : Kept S a w) {p : Addr} (hp : p.block ∈ S ∨ a.heap.size ≤ p.block) (u : Value) : Kept S a (w.setCell p u) :=
  ⟨h.os, h.tape, h.output, by simpa [World.setCell] using h.size, fun k hk hn => (Below.heap_setCell w p u k (by
    rintro rfl
    rcases hp with hp | hp
    · exact hn hp
    · omega)).trans (h.block k hk hn)⟩
/-- a step that may turn blocks of its own S1: each of them in S, or new -/
theorem Kept.step {S S1 : List Nat} {a b c : World} (h : Kept S a b) (k : Kept S1 b c) (hs : ∀ x, x ∈ S1 → x ∈ S ∨ a.heap.size ≤ x) : Kept S a c :=
  ⟨k.os.trans h.os, k.tape.trans h.tape, k.output.trans h.output, Nat.le_trans h.size k.size, fun i hi hn => (k.block i (Nat.lt_of_lt_of_le hi h.size) (fun hx => by
    rcases hs i hx with h1 | h1
    · exact hn h1
    · omega)).trans (h.block i hi hn)⟩
theorem Kept.grown {S : List Nat} {a w w' : World} {row : Option Nat} (h : Kept S a w) (hg : w.grownBy w' row) (hr : ∀ k, row = some k → k ∈ S ∨ a.heap.size ≤ k) : Kept S a w' :=
  h.step (S1 := row.toList) ⟨hg.os, hg.tape, hg.output, hg.size, fun k hk hn => hg.block k hk (fun e => hn (by simp [← e]))⟩ (fun x hx => hr x (by simpa using hx))
/-- What turns only new blocks, or none, leaves below B all as it was. -/
theorem Kept.below {S : List Nat} {a b : World} {B : Nat} (h : Kept S a b) (hB : B ≤ a.heap.size) (hs : ∀ x, x ∈ S → B ≤ x) : Below B a b :=
  ⟨h.os, h.tape, h.output, h.size, fun k hk => h.block k (by omega) (fun hx => by have := hs k hx; omega)⟩
theorem Kept.obj {S : List Nat} {a b : World} (h : Kept S a b) {k : Nat} {t : TypeId} {cs : List Value} (ho : ObjAt a k t cs) (hn : k ∉ S) : ObjAt b k t cs := (h.block k ho.lt hn).trans ho
theorem Kept.cell {S : List Nat} {a b : World} (h : Kept S a b) {p : Addr} (hp : p.block < a.heap.size) (hn : p.block ∉ S) : b.cell? p = a.cell? p := World.cell?_of_block (w := a) (h.block p.block hp hn)
theorem Kept.frozen {S : List Nat} {a b : World} (h : Kept S a b) {p : Addr} (hp : p.block < a.heap.size) (hn : p.block ∉ S) : b.frozen? p = a.frozen? p := World.frozen?_of_block (w := a) (h.block p.block hp hn)
/-- a step that turned only one block, which is no older than B -/
theorem bel_kept1 {B : Nat} {a b c : World} {k : Nat} (h : Below B a b) (hk : Kept [k] b c) (hB : B ≤ k) (hB2 : B ≤ b.heap.size) : Below B a c :=
  h.trans (hk.below hB2 (fun x hx => by have : x = k := by simpa using hx
                                        omega))
theorem bel_kept {B : Nat} {a b c : World} (h : Below B a b) (hk : Kept [B] b c) (hB : B ≤ a.heap.size := by exact Nat.le_refl _) : Below B a c :=
  bel_kept1 h hk (Nat.le_refl _) (Nat.le_trans hB h.size)
theorem bcell {W w1 : World} (hb : Below W.heap.size W w1) : (∀ b o, b < W.heap.size → w1.cell? ⟨b, o, none⟩ = W.cell? ⟨b, o, none⟩) ∧ (∀ b o, b < W.heap.size → w1.frozen? ⟨b, o, none⟩ = W.frozen? ⟨b, o, none⟩) :=
  ⟨fun b o h => hb.cell (p := ⟨b, o, none⟩) h, fun b o h => hb.frozen (p := ⟨b, o, none⟩) h⟩
theorem bel_drewN {B : Nat} {a w : World} (h : Below B a w) (n : Nat) : Below B a (w.drewN n) := ⟨h.os, h.tape, h.output, h.size, h.block⟩
/-- a call behind one new block -/
theorem bel_a1 {w w1 : World} {o : Obj} (h : Below (w.alloc o).heap.size (w.alloc o) w1) : Below w.heap.size w w1 := ((Below.refl _ _).alloc (Nat.le_refl _) o).trans (h.mono (by simp))
theorem bel_a2 {w w1 : World} {o o2 : Obj} (h : Below ((w.alloc o).alloc o2).heap.size ((w.alloc o).alloc o2) w1) : Below w.heap.size w w1 := bel_a1 (bel_a1 h)
theorem bel_a3 {w w1 : World} {o o2 o3 : Obj} (h : Below (((w.alloc o).alloc o2).alloc o3).heap.size (((w.alloc o).alloc o2).alloc o3) w1) : Below w.heap.size w w1 := bel_a1 (bel_a2 h)
theorem ObjAt.below {w w' : World} {b : Nat} {t : TypeId} {cs : List Value} (h : ObjAt w b t cs) (hb : Below w.heap.size w w') : ObjAt w' b t cs := (hb.block b h.lt).trans h
theorem drew_cell (X : World) (a : Addr) : X.drew.cell? a = X.cell? a := rfl
theorem drewN_cell (X : World) (n : Nat) (a : Addr) : (X.drewN n).cell? a = X.cell? a := rfl
theorem objNew {X : World} {b : Nat} {t : TypeId} {cs : List Value} (h : b = X.heap.size) : ObjAt (X.alloc (.cells cs.toArray t)) b t cs := by subst h; exact ObjAt.new _ _ _
theorem ObjAt.other4 {w : World} {b c : Nat} {t : TypeId} {cs : List Value} {v0 v1 v2 v3 : Value} (h : ObjAt w b t cs) (hn : b ≠ c) : ObjAt ((((w.setCell ⟨c, 0, none⟩ v0).setCell ⟨c, 1, none⟩ v1).setCell ⟨c, 2, none⟩ v2).setCell ⟨c, 3, none⟩ v3) b t cs :=
  (((h.setOther hn v0).setOther hn v1).setOther hn v2).setOther hn v3
theorem Kept.new4 {S : List Nat} {a w : World} {c : Nat} {v0 v1 v2 v3 : Value} (h : Kept S a w) (hn : c ∈ S ∨ a.heap.size ≤ c) : Kept S a ((((w.setCell ⟨c, 0, none⟩ v0).setCell ⟨c, 1, none⟩ v1).setCell ⟨c, 2, none⟩ v2).setCell ⟨c, 3, none⟩ v3) :=
  (((h.setCell hn v0).setCell hn v1).setCell hn v2).setCell hn v3
theorem bel_trans {B : Nat} {a b c : World} (h : Below B a b) (k : Below b.heap.size b c) (hB : B ≤ b.heap.size) : Below B a c := h.trans (k.mono hB)
theorem quiet_left {P : Program} {f : FuncId} {args : Array Value} {w : World} {n : Nat} {v : Value}
    (h : Calls P f args (w.drewN n) fun e w' => e = .returned v ∧ w.drewN n = w') : Calls P f args (w.drewN n) fun e w'' => e = .returned v ∧ ∃ m, w'' = w.drewN m :=
  h.mono fun _ _ ⟨he, hm⟩ => ⟨he, n, hm.symm⟩
theorem quiet_add_left {P : Program} {f : FuncId} {args : Array Value} {w : World} {a n : Nat} {v : Value}
    (h : Calls P f args (w.drewN (a + n)) fun e w' => e = .returned v ∧ w.drewN (a + n) = w') :
    Calls P f args (w.drewN (a + n)) fun e w'' => e = .returned v ∧ ∃ m, w'' = w.drewN (a + m) :=
  h.mono fun _ _ ⟨he, hm⟩ => ⟨he, n, hm.symm⟩
end Go.Proofs.YtlnghfmcofmkjaaGreatDoor
