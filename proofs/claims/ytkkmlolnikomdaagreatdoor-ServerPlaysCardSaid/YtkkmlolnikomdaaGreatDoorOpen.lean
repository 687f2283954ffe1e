/- Opening what came in: slices of integers, of slices of integers, of pairs of integers, of strings; structs of integers by value. Over any program. -/
import Derived.WalkKit
import Derived.ProofKit
import Derived.OpenShut
import Derived.ShutString
import Derived.ChangeOld
import Derived.Below
import Derived.Carry
import Derived.SliceStrings
import Derived.Deep.SlicePairs
import Derived.Deep.Matrix
import Derived.Lib.SmallJoins
namespace Go.Proofs.YtkkmlolnikomdaaGreatDoor
open Go.ChangeShapes Go.WideShapes Go.ChangeAt Go.RowKit Go.Deep Go.Joins

/-- A slice of n elements, each of 'k' cells, at address a: cell j of element i holds 'f i j'. -/
def RowAt (w : World) (a : Option Addr) (len k : Nat) (f : Nat → Nat → Value) : Prop :=
  len = 0 ∨ ∃ b off, a = some ⟨b, off, none⟩ ∧ b < w.heap.size ∧ ∀ i j, i < len → j < k → w.cell? ⟨b, off + i * k + j, none⟩ = some (f i j)

/-- A slice of integers that came in. -/
def IntRow (w : World) (a : Option Addr) (len : Nat) (zs : List Int) : Prop :=
  zs.length = len ∧ len ≤ maxLen ∧ (∀ n ∈ zs, (Lit.int .i64 n).wf = true) ∧ RowAt w a len 1 (fun i _ => .int .i64 (zs.getD i 0))

/-- A slice of pairs of integers that came in. -/
def PairRow (w : World) (a : Option Addr) (len : Nat) (zs : List (Int × Int)) : Prop :=
  zs.length = len ∧ len ≤ maxLen ∧ (∀ n ∈ zs, (Lit.int .i64 n.1).wf = true ∧ (Lit.int .i64 n.2).wf = true) ∧
    RowAt w a len 2 (fun i j => .int .i64 (if j = 0 then (zs.getD i (0, 0)).1 else (zs.getD i (0, 0)).2))

/-- A slice of strings that came in. -/
def StrRow (w : World) (a : Option Addr) (len : Nat) (ss : List ByteArray) : Prop :=
  ss.length = len ∧ len ≤ maxLen ∧ (∀ s ∈ ss, s.size ≤ maxLen) ∧ RowAt w a len 1 (fun i _ => .string (ss.getD i ByteArray.empty))

/-- A slice of slices of integers that came in. -/
def MatRow (w : World) (a : Option Addr) (len : Nat) (zs : List (List Int)) : Prop :=
  zs.length = len ∧ len ≤ maxLen ∧ ∃ (A : Nat → Option Addr) (C : Nat → Nat), RowAt w a len 1 (fun i _ => .slice (A i) (zs.getD i []).length (C i)) ∧
    ∀ i, i < len → (zs.getD i []).length ≤ C i ∧ C i ≤ maxLen ∧ IntRow w (A i) (zs.getD i []).length (zs.getD i [])

theorem block_lt {w : World} {a : Addr} {v : Value} (h : w.cell? a = some v) : a.block < w.heap.size := by
  rcases Nat.lt_or_ge a.block w.heap.size with h1 | h1
  · exact h1
  · simp [World.cell?, Array.getElem?_eq_none h1] at h

/-- What is said of a row below B holds behind whatever keeps what is below B. -/
theorem RowAt.below {w w' : World} {a : Option Addr} {len k : Nat} {f : Nat → Nat → Value} (h : RowAt w a len k f) (hb : Below w.heap.size w w') : RowAt w' a len k f := by
  rcases h with h | ⟨b, off, rfl, hlt, hc⟩
  · exact .inl h
  · exact .inr ⟨b, off, rfl, Nat.lt_of_lt_of_le hlt hb.size, fun i j hi hj => (hb.cell (p := ⟨b, off + i * k + j, none⟩) hlt).trans (hc i j hi hj)⟩
theorem IntRow.below {w w' : World} {a : Option Addr} {len : Nat} {zs : List Int} (h : IntRow w a len zs) (hb : Below w.heap.size w w') : IntRow w' a len zs :=
  ⟨h.1, h.2.1, h.2.2.1, h.2.2.2.below hb⟩
theorem PairRow.below {w w' : World} {a : Option Addr} {len : Nat} {zs : List (Int × Int)} (h : PairRow w a len zs) (hb : Below w.heap.size w w') : PairRow w' a len zs :=
  ⟨h.1, h.2.1, h.2.2.1, h.2.2.2.below hb⟩
theorem StrRow.below {w w' : World} {a : Option Addr} {len : Nat} {zs : List ByteArray} (h : StrRow w a len zs) (hb : Below w.heap.size w w') : StrRow w' a len zs :=
  ⟨h.1, h.2.1, h.2.2.1, h.2.2.2.below hb⟩
theorem MatRow.below {w w' : World} {a : Option Addr} {len : Nat} {zs : List (List Int)} (h : MatRow w a len zs) (hb : Below w.heap.size w w') : MatRow w' a len zs := by
  obtain ⟨h1, h2, A, C, h3, h4⟩ := h
  exact ⟨h1, h2, A, C, h3.below hb, fun i hi => ⟨(h4 i hi).1, (h4 i hi).2.1, (h4 i hi).2.2.below hb⟩⟩

/-- no element, or a row whose cells are known -/
theorem IntRow.split {w : World} {a : Option Addr} {len : Nat} {zs : List Int} (h : IntRow w a len zs) :
    len = 0 ∨ ∃ b off, a = some ⟨b, off, none⟩ ∧ b < w.heap.size ∧ len ≤ maxLen ∧ zs.length = len ∧ ∀ i, i < len → w.cell? ⟨b, off + i, none⟩ = some (.int .i64 (zs.getD i 0)) := by
  obtain ⟨h1, h2, _, h4⟩ := h
  rcases h4 with h0 | ⟨b, off, rfl, hlt, hc⟩
  · exact .inl h0
  · exact .inr ⟨b, off, rfl, hlt, h2, h1, fun i hi => by have := hc i 0 hi (by omega); simpa using this⟩
theorem MatRow.split {w : World} {a : Option Addr} {len : Nat} {zs : List (List Int)} (h : MatRow w a len zs) :
    len = 0 ∨ ∃ b off, ∃ (A : Nat → Option Addr) (C : Nat → Nat), a = some ⟨b, off, none⟩ ∧ b < w.heap.size ∧ len ≤ maxLen ∧ zs.length = len ∧ (∀ i, i < len → w.cell? ⟨b, off + i, none⟩ = some (.slice (A i) (zs.getD i []).length (C i))) ∧
      ∀ i, i < len → (zs.getD i []).length ≤ C i ∧ C i ≤ maxLen ∧ IntRow w (A i) (zs.getD i []).length (zs.getD i []) := by
  obtain ⟨h1, h2, A, C, h3, h4⟩ := h
  rcases h3 with h0 | ⟨b, off, rfl, hlt, hc⟩
  · exact .inl h0
  · exact .inr ⟨b, off, A, C, rfl, hlt, h2, h1, fun i hi => by have := hc i 0 hi (by omega); simpa using this, h4⟩
theorem cells_below {w w' : World} {b off len : Nat} {f : Nat → Value} (hlt : b < w.heap.size) (h : ∀ i, i < len → w.cell? ⟨b, off + i, none⟩ = some (f i)) (hb : Below w.heap.size w w') :
    ∀ i, i < len → w'.cell? ⟨b, off + i, none⟩ = some (f i) := fun i hi => (hb.cell (p := ⟨b, off + i, none⟩) hlt).trans (h i hi)

section
variable {H : Type} {enc : TypeId × Value → H} {P : Program} {W : World} {base : Nat}

theorem row_of_add {a : Addr} {len : Nat} {f : Nat → Value} (h : ∀ i, i < len → W.cell? (a.add i) = some (f i)) : RowAt W (some a) len 1 (fun i _ => f i) := by
  rcases Nat.eq_zero_or_pos len with h0 | hp
  · exact .inl h0
  · obtain ⟨b, off, spot⟩ := a
    have hs : spot = none := by simpa [Addr.add] using World.cell?_spot (h 0 hp)
    subst hs
    refine .inr ⟨b, off, rfl, ?_, fun i j hi hj => ?_⟩
    · have := block_lt (h 0 hp); simpa [Addr.add] using this
    · obtain rfl : j = 0 := by omega
      have := h i hi
      rw [add_plain] at this
      rw [Nat.mul_one]
      exact this

theorem open_introw {T E : TypeId} {v : Value} {d : DataW H} {p : List MemPlace} (ht : P.underlying T = some (.slice E)) (he : P.underlying E = some (.int .i64)) (hc : P.cellsOf E = 1)
    (hv : Value.okWide P W .any base T v) (h : DataW.Trod enc P W 0 (fun _ => true) true T v d p) :
    ∃ a len cap zs, v = .slice a len cap ∧ len ≤ cap ∧ cap ≤ maxLen ∧ IntRow W a len zs := by
  obtain ⟨a0, len0, cap0, rfl⟩ := okWide_slice ht hv
  obtain ⟨fuel, hf⟩ := h
  rcases open_ints ht he hc hf with ⟨hcs, _⟩ | ⟨x, l, c, zs, hcs, _, hl, hm, hz, _, hcell, hwz⟩
  · simp [Value.cells] at hcs
    obtain ⟨rfl, rfl, rfl⟩ := hcs
    exact ⟨none, 0, 0, [], rfl, by simp, by simp, rfl, by simp, by simp, .inl rfl⟩
  · simp [Value.cells] at hcs
    obtain ⟨rfl, rfl, rfl⟩ := hcs
    simp only [if_true] at hz
    refine ⟨some x, len0, cap0, zs.take len0, rfl, hl, hm, by simp; omega, by omega, fun n hn => hwz n (List.mem_of_mem_take hn), ?_⟩
    have := row_of_add (W := W) (a := x) (len := len0) (f := fun i => .int .i64 ((zs.take len0).getD i 0)) (fun i hi => by
      rw [hcell i (by omega)]
      simp [List.getD, hi])
    exact this

theorem open_strrow {T E : TypeId} {v : Value} {d : DataW H} {p : List MemPlace} (ht : P.underlying T = some (.slice E)) (he : P.underlying E = some .string) (hc : P.cellsOf E = 1)
    (hv : Value.okWide P W .any base T v) (h : DataW.Trod enc P W 0 (fun _ => true) true T v d p) :
    ∃ a len cap ss, v = .slice a len cap ∧ len ≤ cap ∧ cap ≤ maxLen ∧ StrRow W a len ss := by
  obtain ⟨a0, len0, cap0, rfl⟩ := okWide_slice ht hv
  obtain ⟨fuel, hf⟩ := h
  rcases open_strings ht he hc hf with ⟨hcs, _⟩ | ⟨x, l, c, zs, hcs, _, hl, hm, hz, _, hcell, hwz⟩
  · simp [Value.cells] at hcs
    obtain ⟨rfl, rfl, rfl⟩ := hcs
    exact ⟨none, 0, 0, [], rfl, by simp, by simp, rfl, by simp, by simp, .inl rfl⟩
  · simp [Value.cells] at hcs
    obtain ⟨rfl, rfl, rfl⟩ := hcs
    simp only [if_true] at hz
    refine ⟨some x, len0, cap0, zs.take len0, rfl, hl, hm, by simp; omega, by omega, fun n hn => hwz n (List.mem_of_mem_take hn), ?_⟩
    have := row_of_add (W := W) (a := x) (len := len0) (f := fun i => .string ((zs.take len0).getD i ByteArray.empty)) (fun i hi => by
      rw [hcell i (by omega)]
      simp [List.getD, hi])
    exact this

theorem open_matrow {T E Q : TypeId} {v : Value} {d : DataW H} {p : List MemPlace} (ht : P.underlying T = some (.slice E)) (he : P.underlying E = some (.slice Q)) (hq : P.underlying Q = some (.int .i64)) (hc : P.cellsOf E = 1) (hcq : P.cellsOf Q = 1)
    (hv : Value.okWide P W .any base T v) (h : DataW.Trod enc P W 0 (fun _ => true) true T v d p) :
    ∃ a len cap zs, v = .slice a len cap ∧ len ≤ cap ∧ cap ≤ maxLen ∧ MatRow W a len zs := by
  obtain ⟨a0, len0, cap0, rfl⟩ := okWide_slice ht hv
  obtain ⟨fuel, hf⟩ := h
  rcases open_int_rows ht he hq hc hcq hf with ⟨hcs, _⟩ | ⟨x, l, c, A, L, C, Z, hcs, _, hl, hm, _, hcell⟩
  · simp [Value.cells] at hcs
    obtain ⟨rfl, rfl, rfl⟩ := hcs
    exact ⟨none, 0, 0, [], rfl, by simp, by simp, rfl, by simp, fun _ => none, fun _ => 0, .inl rfl, fun i hi => absurd hi (by omega)⟩
  · simp [Value.cells] at hcs
    obtain ⟨rfl, rfl, rfl⟩ := hcs
    let zs : List (List Int) := (List.range len0).map fun r => (Z r).take (L r)
    have hlen : zs.length = len0 := by simp [zs]
    have hget : ∀ r, r < len0 → zs.getD r [] = (Z r).take (L r) := by intro r hr; simp [zs, List.getD, hr]
    have hll : ∀ r, r < len0 → ((Z r).take (L r)).length = L r := by
      intro r hr; obtain ⟨_, h2, _, h4, _⟩ := hcell r (by omega); simp; omega
    refine ⟨some x, len0, cap0, zs, rfl, hl, hm, hlen, by omega, A, C, ?_, ?_⟩
    · refine row_of_add (W := W) (a := x) (len := len0) (f := fun i => .slice (A i) (zs.getD i []).length (C i)) (fun i hi => ?_)
      rw [(hcell i (by omega)).1, hget i hi, hll i hi]
    · intro i hi
      obtain ⟨_, h2, h3, h4, h5, h6, h7⟩ := hcell i (by omega)
      rw [hget i hi, hll i hi]
      refine ⟨h2, h3, hll i hi, by omega, fun n hn => h5 n (List.mem_of_mem_take hn), ?_⟩
      cases hA : A i with
      | none => exact .inl (by have := h6 hA; omega)
      | some a' =>
        have h8 := (h7 a' hA).2
        refine row_of_add (W := W) (a := a') (len := L i) (f := fun j => .int .i64 (((Z i).take (L i)).getD j 0)) (fun j hj => ?_)
        rw [h8 j (by omega)]
        simp [List.getD, hj]

theorem open_pairrow {T E F0 F1 : TypeId} {f0 f1 : Field} {v : Value} {d : DataW H} {p : List MemPlace} (ht : P.underlying T = some (.slice E)) (he : P.underlying E = some (.struct #[f0, f1]))
    (ce : P.cellsOf E = 2) (o0 : f0.offset = 0) (o1 : f1.offset = 1) (t0 : f0.type = F0) (t1 : f1.type = F1) (c0 : P.cellsOf F0 = 1) (c1 : P.cellsOf F1 = 1) (u0 : P.underlying F0 = some (.int .i64)) (u1 : P.underlying F1 = some (.int .i64))
    (hv : Value.okWide P W .any base T v) (h : DataW.Trod enc P W 0 (fun _ => true) true T v d p) :
    ∃ a len cap zs, v = .slice a len cap ∧ len ≤ cap ∧ cap ≤ maxLen ∧ PairRow W a len zs := by
  subst t0; subst t1
  obtain ⟨a0, len0, cap0, rfl⟩ := okWide_slice ht hv
  obtain ⟨fuel, hf⟩ := h
  rcases open_slice_pairs ht he ce o0 o1 c0 c1 hf with ⟨hcs, _⟩ | ⟨x, l, c, m, n, V0, V1, D0, D1, P0, P1, hcs, _, hl, hm, hmm, _, hcell⟩
  · simp [Value.cells] at hcs
    obtain ⟨rfl, rfl, rfl⟩ := hcs
    exact ⟨none, 0, 0, [], rfl, by simp, by simp, rfl, by simp, by simp, .inl rfl⟩
  · simp [Value.cells] at hcs
    obtain ⟨rfl, rfl, rfl⟩ := hcs
    simp only [if_true] at hmm
    subst hmm
    have each : ∀ i, i < len0 → ∃ q : Int × Int, V0 i = .int .i64 q.1 ∧ V1 i = .int .i64 q.2 ∧ (Lit.int .i64 q.1).wf = true ∧ (Lit.int .i64 q.2).wf = true := by
      intro i hi
      obtain ⟨_, _, h0, h1⟩ := hcell i (by omega)
      obtain ⟨n0, e0, _, w0⟩ := DataW.trod_int u0 h0
      obtain ⟨n1, e1, _, w1⟩ := DataW.trod_int u1 h1
      simp at e0 e1
      exact ⟨(n0, n1), e0, e1, w0, w1⟩
    obtain ⟨q, hq⟩ := choose_lt each
    have hget : ∀ i, i < len0 → ((List.range len0).map q).getD i (0, 0) = q i := by intro i hi; simp [List.getD, hi]
    refine ⟨some x, len0, _, (List.range len0).map q, rfl, hl, hm, by simp, by omega, ?_, ?_⟩
    · intro n hn
      obtain ⟨i, hi, rfl⟩ := List.mem_map.1 hn
      exact ⟨(hq i (List.mem_range.1 hi)).2.2.1, (hq i (List.mem_range.1 hi)).2.2.2⟩
    · rcases Nat.eq_zero_or_pos len0 with h0 | hp
      · exact .inl h0
      · obtain ⟨b, off, spot⟩ := x
        have hs : spot = none := by simpa [Addr.add] using World.cell?_spot (hcell 0 (by omega)).1
        subst hs
        refine .inr ⟨b, off, rfl, ?_, fun i j hi hj => ?_⟩
        · have := block_lt (hcell 0 (by omega)).1; simpa [Addr.add] using this
        · have hc := hcell i (by omega)
          have hi' := hq i hi
          simp only [hget i hi]
          match j, hj with
          | 0, _ => have := hc.1; rw [hi'.1, add_plain] at this; exact this
          | 1, _ => have := hc.2.1; rw [hi'.2.1, add_plain] at this; exact this

theorem open_ints2 {T F0 F1 : TypeId} {f0 f1 : Field} {v : Value} {d : DataW H} {p : List MemPlace} (hs : P.underlying T = some (.struct #[f0, f1])) (hone : oneCellFields P #[f0, f1] = true) (hC : P.cellsOf T = 2)
    (t0 : f0.type = F0) (t1 : f1.type = F1) (u0 : P.underlying F0 = some (.int .i64)) (u1 : P.underlying F1 = some (.int .i64))
    (hv : Value.okWide P W .any base T v) (h : DataW.Trod enc P W 0 (fun _ => true) true T v d p) :
    ∃ a b : Int, v = .agg #[.int .i64 a, .int .i64 b] ∧ (Lit.int .i64 a).wf = true ∧ (Lit.int .i64 b).wf = true := by
  subst t0; subst t1
  obtain ⟨v0, v1, y0, y1, n, rfl, _, _, h0, h1⟩ := open_agg2 hs hone hC hv h
  obtain ⟨n0, e0, _, w0⟩ := DataW.trod_int u0 h0
  obtain ⟨n1, e1, _, w1⟩ := DataW.trod_int u1 h1
  simp at e0 e1
  subst e0; subst e1
  exact ⟨n0, n1, rfl, w0, w1⟩
theorem open_ints3 {T F0 F1 F2 : TypeId} {f0 f1 f2 : Field} {v : Value} {d : DataW H} {p : List MemPlace} (hs : P.underlying T = some (.struct #[f0, f1, f2])) (hone : oneCellFields P #[f0, f1, f2] = true) (hC : P.cellsOf T = 3)
    (t0 : f0.type = F0) (t1 : f1.type = F1) (t2 : f2.type = F2) (u0 : P.underlying F0 = some (.int .i64)) (u1 : P.underlying F1 = some (.int .i64)) (u2 : P.underlying F2 = some (.int .i64))
    (hv : Value.okWide P W .any base T v) (h : DataW.Trod enc P W 0 (fun _ => true) true T v d p) :
    ∃ a b c : Int, v = .agg #[.int .i64 a, .int .i64 b, .int .i64 c] ∧ (Lit.int .i64 a).wf = true ∧ (Lit.int .i64 b).wf = true ∧ (Lit.int .i64 c).wf = true := by
  subst t0; subst t1; subst t2
  obtain ⟨v0, v1, v2, y0, y1, y2, n, rfl, _, _, h0, h1, h2⟩ := open_agg3 hs hone hC hv h
  obtain ⟨n0, e0, _, w0⟩ := DataW.trod_int u0 h0
  obtain ⟨n1, e1, _, w1⟩ := DataW.trod_int u1 h1
  obtain ⟨n2, e2, _, w2⟩ := DataW.trod_int u2 h2
  simp at e0 e1 e2
  subst e0; subst e1; subst e2
  exact ⟨n0, n1, n2, rfl, w0, w1, w2⟩
theorem open_ints4 {T F0 F1 F2 F3 : TypeId} {f0 f1 f2 f3 : Field} {v : Value} {d : DataW H} {p : List MemPlace} (hs : P.underlying T = some (.struct #[f0, f1, f2, f3])) (hone : oneCellFields P #[f0, f1, f2, f3] = true) (hC : P.cellsOf T = 4)
    (t0 : f0.type = F0) (t1 : f1.type = F1) (t2 : f2.type = F2) (t3 : f3.type = F3) (u0 : P.underlying F0 = some (.int .i64)) (u1 : P.underlying F1 = some (.int .i64)) (u2 : P.underlying F2 = some (.int .i64)) (u3 : P.underlying F3 = some (.int .i64))
    (hv : Value.okWide P W .any base T v) (h : DataW.Trod enc P W 0 (fun _ => true) true T v d p) :
    ∃ a b c e : Int, v = .agg #[.int .i64 a, .int .i64 b, .int .i64 c, .int .i64 e] ∧ (Lit.int .i64 a).wf = true ∧ (Lit.int .i64 b).wf = true ∧ (Lit.int .i64 c).wf = true ∧ (Lit.int .i64 e).wf = true := by
  subst t0; subst t1; subst t2; subst t3
  obtain ⟨v0, v1, v2, v3, y0, y1, y2, y3, n, rfl, _, _, h0, h1, h2, h3⟩ := open_agg4 hs hone hC hv h
  obtain ⟨n0, e0, _, w0⟩ := DataW.trod_int u0 h0
  obtain ⟨n1, e1, _, w1⟩ := DataW.trod_int u1 h1
  obtain ⟨n2, e2, _, w2⟩ := DataW.trod_int u2 h2
  obtain ⟨n3, e3, _, w3⟩ := DataW.trod_int u3 h3
  simp at e0 e1 e2 e3
  subst e0; subst e1; subst e2; subst e3
  exact ⟨n0, n1, n2, n3, rfl, w0, w1, w2, w3⟩
end
end Go.Proofs.YtkkmlolnikomdaaGreatDoor
