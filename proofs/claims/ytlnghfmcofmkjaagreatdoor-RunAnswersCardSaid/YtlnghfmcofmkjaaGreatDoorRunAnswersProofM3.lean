/- Opening what came in: slices of integers, of slices of integers, of pairs of integers, of strings; structs of integers by value. Over any program. A row of the call's own that holds integers. run: row, numbers by contract. -/
import Derived.WalkKit
import Derived.ProofKit
import Derived.OpenShut
import Derived.ShutString
import Derived.ChangeOld
import Derived.Below
import Derived.Carry
import Derived.SliceStrings
import Derived.Deep.SlicePairs
import Derived.Deep.Matrix
import Derived.Lib.SmallJoins
import Derived.Test.YtlnghfmcofmkjaaGreatDoorRunAnswersProofM2
import Derived.Test.YtlnghfmcofmkjaaGreatDoorObj
import Derived.Laws.OwnMore
import Derived.OwnWalk
import Derived.Maps.AppendAt
namespace Go.Proofs.YtlnghfmcofmkjaaGreatDoor
open Go.ChangeShapes Go.WideShapes Go.ChangeAt Go.RowKit Go.Deep Go.Joins

/-- A slice of n elements, each of 'k' cells, at address a: cell j of element i holds 'f i j'. -/
def RowAt (w : World) (a : Option Addr) (len k : Nat) (f : Nat → Nat → Value) : Prop :=
  len = 0 ∨ ∃ b off, a = some ⟨b, off, none⟩ ∧ b < w.heap.size ∧ ∀ i j, i < len → j < k → w.cell? ⟨b, off + i * k + j, none⟩ = some (f i j)

/-- A slice of integers that came in. -/
def IntRow (w : World) (a : Option Addr) (len : Nat) (zs : List Int) : Prop :=
  zs.length = len ∧ len ≤ maxLen ∧ (∀ n ∈ zs, (Lit.int .i64 n).wf = true) ∧ RowAt w a len 1 (fun i _ => .int .i64 (zs.getD i 0))

/-- A slice of pairs of integers that came in. -/
def PairRow (w : World) (a : Option Addr) (len : Nat) (zs : List (Int × Int)) : Prop :=
  zs.length = len ∧ len ≤ maxLen ∧ (∀ n ∈ zs, (Lit.int .i64 n.1).wf = true ∧ (Lit.int .i64 n.2).wf = true) ∧
    RowAt w a len 2 (fun i j => .int .i64 (if j = 0 then (zs.getD i (0, 0)).1 else (zs.getD i (0, 0)).2))

/-- A slice of strings that came in. -/
def StrRow (w : World) (a : Option Addr) (len : Nat) (ss : List ByteArray) : Prop :=
  ss.length = len ∧ len ≤ maxLen ∧ (∀ s ∈ ss, s.size ≤ maxLen) ∧ RowAt w a len 1 (fun i _ => .string (ss.getD i ByteArray.empty))

/-- A slice of slices of integers that came in. -/
def MatRow (w : World) (a : Option Addr) (len : Nat) (zs : List (List Int)) : Prop :=
  zs.length = len ∧ len ≤ maxLen ∧ ∃ (A : Nat → Option Addr) (C : Nat → Nat), RowAt w a len 1 (fun i _ => .slice (A i) (zs.getD i []).length (C i)) ∧
    ∀ i, i < len → (zs.getD i []).length ≤ C i ∧ C i ≤ maxLen ∧ IntRow w (A i) (zs.getD i []).length (zs.getD i [])

theorem block_lt {w : World} {a : Addr} {v : Value} (h : w.cell? a = some v) : a.block < w.heap.size := by
  rcases Nat.lt_or_ge a.block w.heap.size with h1 | h1
  · exact h1
  · simp [World.cell?, Array.getElem?_eq_none h1] at h

/-- What is said of a row below B holds behind whatever keeps what is below B. -/
theorem RowAt.below {w w' : World} {a : Option Addr} {len k : Nat} {f : Nat → Nat → Value} (h : RowAt w a len k f) (hb : Below w.heap.size w w') : RowAt w' a len k f := by
  rcases h with h | ⟨b, off, rfl, hlt, hc⟩
  · exact .inl h
  · exact .inr ⟨b, off, rfl, Nat.lt_of_lt_of_le hlt hb.size, fun i j hi hj => (hb.cell (p := ⟨b, off + i * k + j, none⟩) hlt).trans (hc i j hi hj)⟩
theorem IntRow.below {w w' : World} {a : Option Addr} {len : Nat} {zs : List Int} (h : IntRow w a len zs) (hb : Below w.heap.size w w') : IntRow w' a len zs :=
  ⟨h.1, h.2.1, h.2.2.1, h.2.2.2.below hb⟩
theorem PairRow.below {w w' : World} {a : Option Addr} {len : Nat} {zs : List (Int × Int)} (h : PairRow w a len zs) (hb : Below w.heap.size w w') : PairRow w' a len zs :=
  ⟨h.1, h.2.1, h.2.2.1, h.2.2.2.below hb⟩
theorem StrRow.below {w w' : World} {a : Option Addr} {len : Nat} {zs : List ByteArray} (h : StrRow w a len zs) (hb : Below w.heap.size w w') : StrRow w' a len zs :=
  ⟨h.1, h.2.1, h.2.2.1, h.2.2.2.below hb⟩
theorem MatRow.below {w w' : World} {a : Option Addr} {len : Nat} {zs : List (List Int)} (h : MatRow w a len zs) (hb : Below w.heap.size w w') : MatRow w' a len zs := by
  obtain ⟨h1, h2, A, C, h3, h4⟩ := h
  exact ⟨h1, h2, A, C, h3.below hb, fun i hi => ⟨(h4 i hi).1, (h4 i hi).2.1, (h4 i hi).2.2.below hb⟩⟩

/-- no element, or a row whose cells are known -/
theorem IntRow.split {w : World} {a : Option Addr} {len : Nat} {zs : List Int} (h : IntRow w a len zs) :
    len = 0 ∨ ∃ b off, a = some ⟨b, off, none⟩ ∧ b < w.heap.size ∧ len ≤ maxLen ∧ zs.length = len ∧ ∀ i, i < len → w.cell? ⟨b, off + i, none⟩ = some (.int .i64 (zs.getD i 0)) := by
  obtain ⟨h1, h2, _, h4⟩ := h
  rcases h4 with h0 | ⟨b, off, rfl, hlt, hc⟩
  · exact .inl h0
  · exact .inr ⟨b, off, rfl, hlt, h2, h1, fun i hi => by have := hc i 0 hi (by omega); simpa using this⟩
theorem MatRow.split {w : World} {a : Option Addr} {len : Nat} {zs : List (List Int)} (h : MatRow w a len zs) :
    len = 0 ∨ ∃ b off, ∃ (A : Nat → Option Addr) (C : Nat → Nat), a = some ⟨b, off, none⟩ ∧ b < w.heap.size ∧ len ≤ maxLen ∧ zs.length = len ∧ (∀ i, i < len → w.cell? ⟨b, off + i, none⟩ = some (.slice (A i) (zs.getD i []).length (C i))) ∧
      ∀ i, i < len → (zs.getD i []).length ≤ C i ∧ C i ≤ maxLen ∧ IntRow w (A i) (zs.getD i []).length (zs.getD i []) := by
  obtain ⟨h1, h2, A, C, h3, h4⟩ := h
  rcases h3 with h0 | ⟨b, off, rfl, hlt, hc⟩
  · exact .inl h0
  · exact .inr ⟨b, off, A, C, rfl, hlt, h2, h1, fun i hi => by have := hc i 0 hi (by omega); simpa using this, h4⟩
theorem cells_below {w w' : World} {b off len : Nat} {f : Nat → Value} (hlt : b < w.heap.size) (h : ∀ i, i < len → w.cell? ⟨b, off + i, none⟩ = some (f i)) (hb : Below w.heap.size w w') :
    ∀ i, i < len → w'.cell? ⟨b, off + i, none⟩ = some (f i) := fun i hi => (hb.cell (p := ⟨b, off + i, none⟩) hlt).trans (h i hi)

section
variable {H : Type} {enc : TypeId × Value → H} {P : Program} {W : World} {base : Nat}

theorem row_of_add {a : Addr} {len : Nat} {f : Nat → Value} (h : ∀ i, i < len → W.cell? (a.add i) = some (f i)) : RowAt W (some a) len 1 (fun i _ => f i) := by
  rcases Nat.eq_zero_or_pos len with h0 | hp
  · exact .inl h0
  · obtain ⟨b, off, spot⟩ := a
    have hs : spot = none := by simpa [Addr.add] using World.cell?_spot (h 0 hp)
    subst hs
    refine .inr ⟨b, off, rfl, ?_, fun i j hi hj => ?_⟩
    · have := block_lt (h 0 hp); simpa [Addr.add] using this
    · obtain rfl : j = 0 := by omega
      have := h i hi
      rw [add_plain] at this
      rw [Nat.mul_one]
      exact this

theorem open_introw {T E : TypeId} {v : Value} {d : DataW H} {p : List MemPlace} (ht : P.underlying T = some (.slice E)) (he : P.underlying E = some (.int .i64)) (hc : P.cellsOf E = 1)
    (hv : Value.okWide P W .any base T v) (h : DataW.Trod enc P W 0 (fun _ => true) true T v d p) :
    ∃ a len cap zs, v = .slice a len cap ∧ len ≤ cap ∧ cap ≤ maxLen ∧ IntRow W a len zs := by
  obtain ⟨a0, len0, cap0, rfl⟩ := okWide_slice ht hv
  obtain ⟨fuel, hf⟩ := h
  rcases open_ints ht he hc hf with ⟨hcs, _⟩ | ⟨x, l, c, zs, hcs, _, hl, hm, hz, _, hcell, hwz⟩
  · simp [Value.cells] at hcs
    obtain ⟨rfl, rfl, rfl⟩ := hcs
    exact ⟨none, 0, 0, [], rfl, by simp, by simp, rfl, by simp, by simp, .inl rfl⟩
  · simp [Value.cells] at hcs
    obtain ⟨rfl, rfl, rfl⟩ := hcs
    simp only [if_true] at hz
    refine ⟨some x, len0, cap0, zs.take len0, rfl, hl, hm, by simp; omega, by omega, fun n hn => hwz n (List.mem_of_mem_take hn), ?_⟩
    have := row_of_add (W := W) (a := x) (len := len0) (f := fun i => .int .i64 ((zs.take len0).getD i 0)) (fun i hi => by
      rw [hcell i (by omega)]
      simp [List.getD, hi])
    exact this

theorem open_strrow {T E : TypeId} {v : Value} {d : DataW H} {p : List MemPlace} (ht : P.underlying T = some (.slice E)) (he : P.underlying E = some .string) (hc : P.cellsOf E = 1)
    (hv : Value.okWide P W .any base T v) (h : DataW.Trod enc P W 0 (fun _ => true) true T v d p) :
    ∃ a len cap ss, v = .slice a len cap ∧ len ≤ cap ∧ cap ≤ maxLen ∧ StrRow W a len ss := by
  obtain ⟨a0, len0, cap0, rfl⟩ := okWide_slice ht hv
  obtain ⟨fuel, hf⟩ := h
  rcases open_strings ht he hc hf with ⟨hcs, _⟩ | ⟨x, l, c, zs, hcs, _, hl, hm, hz, _, hcell, hwz⟩
  · simp [Value.cells] at hcs
    obtain ⟨rfl, rfl, rfl⟩ := hcs
    exact ⟨none, 0, 0, [], rfl, by simp, by simp, rfl, by simp, by simp, .inl rfl⟩
  · simp [Value.cells] at hcs
    obtain ⟨rfl, rfl, rfl⟩ := hcs
    simp only [if_true] at hz
    refine ⟨some x, len0, cap0, zs.take len0, rfl, hl, hm, by simp; omega, by omega, fun n hn => hwz n (List.mem_of_mem_take hn), ?_⟩
    have := row_of_add (W := W) (a := x) (len := len0) (f := fun i => .string ((zs.take len0).getD i ByteArray.empty)) (fun i hi => by
      rw [hcell i (by omega)]
      simp [List.getD, hi])
    exact this

theorem open_matrow {T E Q : TypeId} {v : Value} {d : DataW H} {p : List MemPlace} (ht : P.underlying T = some (.slice E)) (he : P.underlying E = some (.slice Q)) (hq : P.underlying Q = some (.int .i64)) (hc : P.cellsOf E = 1) (hcq : P.cellsOf Q = 1)
    (hv : Value.okWide P W .any base T v) (h : DataW.Trod enc P W 0 (fun _ => true) true T v d p) :
    ∃ a len cap zs, v = .slice a len cap ∧ len ≤ cap ∧ cap ≤ maxLen ∧ MatRow W a len zs := by
  obtain ⟨a0, len0, cap0, rfl⟩ := okWide_slice ht hv
  obtain ⟨fuel, hf⟩ := h
  rcases open_int_rows ht he hq hc hcq hf with ⟨hcs, _⟩ | ⟨x, l, c, A, L, C, Z, hcs, _, hl, hm, _, hcell⟩
  · simp [Value.cells] at hcs
    obtain ⟨rfl, rfl, rfl⟩ := hcs
    exact ⟨none, 0, 0, [], rfl, by simp, by simp, rfl, by simp, fun _ => none, fun _ => 0, .inl rfl, fun i hi => absurd hi (by omega)⟩
  · simp [Value.cells] at hcs
    obtain ⟨rfl, rfl, rfl⟩ := hcs
    let zs : List (List Int) := (List.range len0).map fun r => (Z r).take (L r)
    have hlen : zs.length = len0 := by simp [zs]
    have hget : ∀ r, r < len0 → zs.getD r [] = (Z r).take (L r) := by intro r hr; simp [zs, List.getD, hr]
    have hll : ∀ r, r < len0 → ((Z r).take (L r)).length = L r := by
      intro r hr; obtain ⟨_, h2, _, h4, _⟩ := hcell r (by omega); simp; omega
    refine ⟨some x, len0, cap0, zs, rfl, hl, hm, hlen, by omega, A, C, ?_, ?_⟩
    · refine row_of_add (W := W) (a := x) (len := len0) (f := fun i => .slice (A i) (zs.getD i []).length (C i)) (fun i hi => ?_)
      rw [(hcell i (by omega)).1, hget i hi, hll i hi]
    · intro i hi
      obtain ⟨_, h2, h3, h4, h5, h6, h7⟩ := hcell i (by omega)
      rw [hget i hi, hll i hi]
      refine ⟨h2, h3, hll i hi, by omega, fun n hn => h5 n (List.mem_of_mem_take hn), ?_⟩
      cases hA : A i with
      | none => exact .inl (by have := h6 hA; omega)
      | some a' =>
        have h8 := (h7 a' hA).2
        refine row_of_add (W := W) (a := a') (len := L i) (f := fun j => .int .i64 (((Z i).take (L i)).getD j 0)) (fun j hj => ?_)
        rw [h8 j (by omega)]
        simp [List.getD, hj]

theorem open_pairrow {T E F0 F1 : TypeId} {f0 f1 : Field} {v : Value} {d : DataW H} {p : List MemPlace} (ht : P.underlying T = some (.slice E)) (he : P.underlying E = some (.struct #[f0, f1]))
    (ce : P.cellsOf E = 2) (o0 : f0.offset = 0) (o1 : f1.offset = 1) (t0 : f0.type = F0) (t1 : f1.type = F1) (c0 : P.cellsOf F0 = 1) (c1 : P.cellsOf F1 = 1) (u0 : P.underlying F0 = some (.int .i64)) (u1 : P.underlying F1 = some (.int .i64))
    (hv : Value.okWide P W .any base T v) (h : DataW.Trod enc P W 0 (fun _ => true) true T v d p) :
    ∃ a len cap zs, v = .slice a len cap ∧ len ≤ cap ∧ cap ≤ maxLen ∧ PairRow W a len zs := by
  subst t0; subst t1
  obtain ⟨a0, len0, cap0, rfl⟩ := okWide_slice ht hv
  obtain ⟨fuel, hf⟩ := h
  rcases open_slice_pairs ht he ce o0 o1 c0 c1 hf with ⟨hcs, _⟩ | ⟨x, l, c, m, n, V0, V1, D0, D1, P0, P1, hcs, _, hl, hm, hmm, _, hcell⟩
  · simp [Value.cells] at hcs
    obtain ⟨rfl, rfl, rfl⟩ := hcs
    exact ⟨none, 0, 0, [], rfl, by simp, by simp, rfl, by simp, by simp, .inl rfl⟩
  · simp [Value.cells] at hcs
    obtain ⟨rfl, rfl, rfl⟩ := hcs
    simp only [if_true] at hmm
    subst hmm
    have each : ∀ i, i < len0 → ∃ q : Int × Int, V0 i = .int .i64 q.1 ∧ V1 i = .int .i64 q.2 ∧ (Lit.int .i64 q.1).wf = true ∧ (Lit.int .i64 q.2).wf = true := by
      intro i hi
      obtain ⟨_, _, h0, h1⟩ := hcell i (by omega)
      obtain ⟨n0, e0, _, w0⟩ := DataW.trod_int u0 h0
      obtain ⟨n1, e1, _, w1⟩ := DataW.trod_int u1 h1
      simp at e0 e1
      exact ⟨(n0, n1), e0, e1, w0, w1⟩
    obtain ⟨q, hq⟩ := choose_lt each
    have hget : ∀ i, i < len0 → ((List.range len0).map q).getD i (0, 0) = q i := by intro i hi; simp [List.getD, hi]
    refine ⟨some x, len0, _, (List.range len0).map q, rfl, hl, hm, by simp, by omega, ?_, ?_⟩
    · intro n hn
      obtain ⟨i, hi, rfl⟩ := List.mem_map.1 hn
      exact ⟨(hq i (List.mem_range.1 hi)).2.2.1, (hq i (List.mem_range.1 hi)).2.2.2⟩
    · rcases Nat.eq_zero_or_pos len0 with h0 | hp
      · exact .inl h0
      · obtain ⟨b, off, spot⟩ := x
        have hs : spot = none := by simpa [Addr.add] using World.cell?_spot (hcell 0 (by omega)).1
        subst hs
        refine .inr ⟨b, off, rfl, ?_, fun i j hi hj => ?_⟩
        · have := block_lt (hcell 0 (by omega)).1; simpa [Addr.add] using this
        · have hc := hcell i (by omega)
          have hi' := hq i hi
          simp only [hget i hi]
          match j, hj with
          | 0, _ => have := hc.1; rw [hi'.1, add_plain] at this; exact this
          | 1, _ => have := hc.2.1; rw [hi'.2.1, add_plain] at this; exact this

theorem open_ints2 {T F0 F1 : TypeId} {f0 f1 : Field} {v : Value} {d : DataW H} {p : List MemPlace} (hs : P.underlying T = some (.struct #[f0, f1])) (hone : oneCellFields P #[f0, f1] = true) (hC : P.cellsOf T = 2)
    (t0 : f0.type = F0) (t1 : f1.type = F1) (u0 : P.underlying F0 = some (.int .i64)) (u1 : P.underlying F1 = some (.int .i64))
    (hv : Value.okWide P W .any base T v) (h : DataW.Trod enc P W 0 (fun _ => true) true T v d p) :
    ∃ a b : Int, v = .agg #[.int .i64 a, .int .i64 b] ∧ (Lit.int .i64 a).wf = true ∧ (Lit.int .i64 b).wf = true := by
  subst t0; subst t1
  obtain ⟨v0, v1, y0, y1, n, rfl, _, _, h0, h1⟩ := open_agg2 hs hone hC hv h
  obtain ⟨n0, e0, _, w0⟩ := DataW.trod_int u0 h0
  obtain ⟨n1, e1, _, w1⟩ := DataW.trod_int u1 h1
  simp at e0 e1
  subst e0; subst e1
  exact ⟨n0, n1, rfl, w0, w1⟩
theorem open_ints3 {T F0 F1 F2 : TypeId} {f0 f1 f2 : Field} {v : Value} {d : DataW H} {p : List MemPlace} (hs : P.underlying T = some (.struct #[f0, f1, f2])) (hone : oneCellFields P #[f0, f1, f2] = true) (hC : P.cellsOf T = 3)
    (t0 : f0.type = F0) (t1 : f1.type = F1) (t2 : f2.type = F2) (u0 : P.underlying F0 = some (.int .i64)) (u1 : P.underlying F1 = some (.int .i64)) (u2 : P.underlying F2 = some (.int .i64))
    (hv : Value.okWide P W .any base T v) (h : DataW.Trod enc P W 0 (fun _ => true) true T v d p) :
    ∃ a b c : Int, v = .agg #[.int .i64 a, .int .i64 b, .int .i64 c] ∧ (Lit.int .i64 a).wf = true ∧ (Lit.int .i64 b).wf = true ∧ (Lit.int .i64 c).wf = true := by
  subst t0; subst t1; subst t2
  obtain ⟨v0, v1, v2, y0, y1, y2, n, rfl, _, _, h0, h1, h2⟩ := open_agg3 hs hone hC hv h
  obtain ⟨n0, e0, _, w0⟩ := DataW.trod_int u0 h0
  obtain ⟨n1, e1, _, w1⟩ := DataW.trod_int u1 h1
  obtain ⟨n2, e2, _, w2⟩ := DataW.trod_int u2 h2
  simp at e0 e1 e2
  subst e0; subst e1; subst e2
  exact ⟨n0, n1, n2, rfl, w0, w1, w2⟩
theorem open_ints4 {T F0 F1 F2 F3 : TypeId} {f0 f1 f2 f3 : Field} {v : Value} {d : DataW H} {p : List MemPlace} (hs : P.underlying T = some (.struct #[f0, f1, f2, f3])) (hone : oneCellFields P #[f0, f1, f2, f3] = true) (hC : P.cellsOf T = 4)
    (t0 : f0.type = F0) (t1 : f1.type = F1) (t2 : f2.type = F2) (t3 : f3.type = F3) (u0 : P.underlying F0 = some (.int .i64)) (u1 : P.underlying F1 = some (.int .i64)) (u2 : P.underlying F2 = some (.int .i64)) (u3 : P.underlying F3 = some (.int .i64))
    (hv : Value.okWide P W .any base T v) (h : DataW.Trod enc P W 0 (fun _ => true) true T v d p) :
    ∃ a b c e : Int, v = .agg #[.int .i64 a, .int .i64 b, .int .i64 c, .int .i64 e] ∧ (Lit.int .i64 a).wf = true ∧ (Lit.int .i64 b).wf = true ∧ (Lit.int .i64 c).wf = true ∧ (Lit.int .i64 e).wf = true := by
  subst t0; subst t1; subst t2; subst t3
  obtain ⟨v0, v1, v2, v3, y0, y1, y2, y3, n, rfl, _, _, h0, h1, h2, h3⟩ := open_agg4 hs hone hC hv h
  obtain ⟨n0, e0, _, w0⟩ := DataW.trod_int u0 h0
  obtain ⟨n1, e1, _, w1⟩ := DataW.trod_int u1 h1
  obtain ⟨n2, e2, _, w2⟩ := DataW.trod_int u2 h2
  obtain ⟨n3, e3, _, w3⟩ := DataW.trod_int u3 h3
  simp at e0 e1 e2 e3
  subst e0; subst e1; subst e2; subst e3
  exact ⟨n0, n1, n2, n3, rfl, w0, w1, w2, w3⟩
end
end Go.Proofs.YtlnghfmcofmkjaaGreatDoor

namespace Go.Proofs.YtlnghfmcofmkjaaGreatDoor
open Go.RowKit

theorem Tryz.infoInt : (Tryz.prog.info? 3).map (fun i => (i.zero, i.size, i.bytes)) = some (some (.int .i64 0), 1, 8) := by kernel_rfl

theorem getD_map_int (zs : List Int) (i : Nat) (h : i < zs.length) : (zs.map (Value.int .i64))[i]? = some (.int .i64 (zs.getD i 0)) := by
  simp [List.getElem?_map, List.getElem?_eq_getElem h, List.getD]
/-- the row's cells as they are read -/
theorem own_cells {w : World} {base : Nat} {e : TypeId} {g n cap : Nat} {zs : List Int} (h : w.ownsRow base e 1 (.slice (some ⟨g, 0, none⟩) n cap) n (zs.map (Value.int .i64))) :
    zs.length = n ∧ ∀ i, i < n → w.cell? ⟨g, 0 + i, none⟩ = some (.int .i64 (zs.getD i 0)) := by
  have hl : zs.length = n := by have := h.1; simpa using this
  exact ⟨hl, fun i hi => by rw [Nat.zero_add, h.cellAt i (by omega), getD_map_int zs i (by omega)]⟩
theorem own_introw {w : World} {base : Nat} {e : TypeId} {v : Value} {n : Nat} {zs : List Int} (h : w.ownsRow base e 1 v n (zs.map (Value.int .i64))) (hw : ∀ z ∈ zs, (Lit.int .i64 z).wf = true) :
    ∃ a c, v = .slice a n c ∧ n ≤ c ∧ c ≤ maxLen ∧ IntRow w a n zs := by
  have hl : zs.length = n := by have := h.1; simpa using this
  rcases h.2 with ⟨rfl, rfl⟩ | ⟨g, cap, cur, rfl, _, hg, hnc, hcm, _, _⟩
  · exact ⟨none, 0, rfl, Nat.le_refl _, by simp [maxLen], hl, by simp [maxLen], hw, .inl rfl⟩
  · refine ⟨some ⟨g, 0, none⟩, cap, rfl, hnc, hcm, hl, Nat.le_trans hnc hcm, hw, .inr ⟨g, 0, rfl, lt_of_block hg, fun i j hi hj => ?_⟩⟩
    have := (own_cells h).2 i hi
    obtain rfl : j = 0 := by omega
    simpa using this
theorem set_map_int (zs : List Int) (k : Nat) (n : Int) : (zs.map (Value.int .i64)).set k (.int .i64 n) = (zs.set k n).map (Value.int .i64) := by rw [List.map_set]
theorem ints_oneCell (zs : List Int) : ∀ u ∈ zs.map (Value.int .i64), u.oneCell' = true := by
  intro u hu
  obtain ⟨z, _, rfl⟩ := List.mem_map.1 hu
  rfl
theorem own_form {w : World} {base size n : Nat} {e : TypeId} {v : Value} {xs : List Value} (h : w.ownsRow base e size v n xs) (hn : 0 < n) : ∃ g cap, v = .slice (some ⟨g, 0, none⟩) n cap ∧ base ≤ g ∧ g < w.heap.size ∧ n ≤ cap ∧ cap ≤ maxLen := by
  rcases h.2 with ⟨_, h0⟩ | ⟨g, cap, cur, hv, hb, hg, hnc, hcm, _, _⟩
  · omega
  · exact ⟨g, cap, hv, hb, lt_of_block hg, hnc, hcm⟩
theorem own_below {w w' : World} {base size n : Nat} {e : TypeId} {v : Value} {xs : List Value} (h : w.ownsRow base e size v n xs) (hb : Below w.heap.size w w') : w'.ownsRow base e size v n xs :=
  h.kept (row := none) ⟨hb.os, hb.tape, hb.output, hb.size, fun k hk _ => hb.block k hk⟩ (by cases v.ownBlock <;> simp)
theorem own_kept {S : List Nat} {w w' : World} {base size n : Nat} {e : TypeId} {v : Value} {xs : List Value} (h : w.ownsRow base e size v n xs) (hk : Kept S w w') (hS : ∀ x, x ∈ S → x < base) : w'.ownsRow base e size v n xs := by
  refine ⟨h.1, ?_⟩
  rcases h.2 with h2 | ⟨g, cap, cur, h1, h2, h3, h4⟩
  · exact .inl h2
  · exact .inr ⟨g, cap, cur, h1, h2, (hk.block g (lt_of_block h3) (fun hx => by have := hS g hx; omega)).trans h3, h4⟩
theorem own_slice {w : World} {base n : Nat} {e : TypeId} {v : Value} {zs : List Int} (h : w.ownsRow base e 1 v n (zs.map (Value.int .i64))) :
    ∃ a c, v = .slice a n c ∧ n ≤ c ∧ c ≤ maxLen ∧ (n = 0 ∨ ∃ g, a = some ⟨g, 0, none⟩ ∧ base ≤ g ∧ g < w.heap.size ∧ ∀ i, i < n → w.cell? ⟨g, i, none⟩ = some (.int .i64 (zs.getD i 0))) := by
  rcases h.2 with ⟨rfl, rfl⟩ | ⟨g, cap, cur, rfl, hb, hg, hnc, hcm, _, _⟩
  · exact ⟨none, 0, rfl, Nat.le_refl _, by simp [maxLen], .inl rfl⟩
  · refine ⟨some ⟨g, 0, none⟩, cap, rfl, hnc, hcm, .inr ⟨g, rfl, hb, lt_of_block hg, fun i hi => ?_⟩⟩
    have := (own_cells h).2 i hi
    simpa using this
theorem grown_obj {w w' : World} {row : Option Nat} {b : Nat} {t : TypeId} {cs : List Value} (hg : w.grownBy w' row) (ho : ObjAt w b t cs) (hn : ∀ k, row = some k → k ≠ b) : ObjAt w' b t cs :=
  (hg.block b ho.lt (fun e => hn b e.symm rfl)).trans ho
theorem grown_below {B : Nat} {a w w' : World} {row : Option Nat} (h : Below B a w) (hg : w.grownBy w' row) (hr : ∀ k, row = some k → B ≤ k) (hB : B ≤ w.heap.size) : Below B a w' :=
  ⟨hg.os.trans h.os, hg.tape.trans h.tape, hg.output.trans h.output, Nat.le_trans h.size hg.size, fun k hk => (hg.block k (Nat.lt_of_lt_of_le hk hB) (fun e => by have := hr k e.symm; omega)).trans (h.block k hk)⟩
theorem own_blk {w : World} {base size n : Nat} {e : TypeId} {v : Value} {xs : List Value} (h : w.ownsRow base e size v n xs) : ∀ k, v.ownBlock = some k → base ≤ k := fun k hk => (h.lt k hk).1
end Go.Proofs.YtlnghfmcofmkjaaGreatDoor

namespace Go.Proofs.YtlnghfmcofmkjaaGreatDoor
open Go.RowKit

theorem Tryz.infoStr : (Tryz.prog.info? 9).map (fun i => (i.zero, i.size, i.bytes)) = some (some (.string ByteArray.empty), 1, 16) := by kernel_rfl
/-- a number that a row may hold -/
def numOk (n : Int) : Prop := 0 ≤ n ∧ n < 1000000
/-- a row of numerals, as bytes -/
def rowB (ns : List Int) : ByteArray := ⟨(rowL ns).toArray⟩
theorem rowL_join : ∀ ns : List Int, Lib.join (ns.map digL) [32] = rowL ns := by
  intro ns
  induction ns with
  | nil => rfl
  | cons n ns ih =>
    cases ns with
    | nil => rw [List.map_cons, List.map_nil, Lib.join_one]; rfl
    | cons m r =>
      rw [List.map_cons, List.map_cons, Lib.join_cons, rowL, ← ih, List.map_cons, Lib.join_cons]
      simp [Lib.joinTail]
theorem numB_digL {n : Int} (h : numOk n) : (numB n).data.toList = digL n := by
  unfold numB
  rw [digL_itoa h.1 (by have := h.2; omega)]
theorem rowL_le (ns : List Int) (hk : ∀ n ∈ ns, numOk n) : (rowL ns).length ≤ 7 * ns.length := by
  have hd : ∀ n, numOk n → (digL n).length ≤ 6 := fun n h => by
    have h1 := (numB_size h.1 h.2).2
    have h2 : (numB n).data.toList.length = (numB n).size := by simp
    rw [numB_digL h] at h2
    omega
  induction ns with
  | nil => simp [rowL]
  | cons n ns ih =>
    have h1 := hd n (hk n (by simp))
    have h2 := ih (fun x hx => hk x (by simp [hx]))
    cases ns with
    | nil => simp [rowL]; omega
    | cons m r => rw [rowL]; simp at h2 ⊢; omega
theorem own_slS {w : World} {base n size : Nat} {e : TypeId} {v : Value} {xs : List Value} (h : w.ownsRow base e size v n xs) : ∃ a c, v = .slice a n c := by
  rcases h.2 with ⟨rfl, rfl⟩ | ⟨g, cap, cur, rfl, _⟩
  · exact ⟨none, 0, rfl⟩
  · exact ⟨_, cap, rfl⟩
theorem take_numB (ns : List Int) (k : Nat) (h : k < ns.length) : (ns.take (k + 1)).map (fun n => Value.string (numB n)) = (ns.take k).map (fun n => Value.string (numB n)) ++ [.string (numB (ns.getD k 0))] := by
  rw [List.take_succ_eq_append_getElem h, List.map_append]
  simp [List.getD, List.getElem?_eq_getElem h]
set_option maxHeartbeats 4000000 in
theorem runRow {ns : List Int} (hk : ∀ n ∈ ns, numOk n) (hl1 : 1 ≤ ns.length) (hl : ns.length ≤ 100) (bk c : Nat) (w : World) (hc : ∀ j, j < ns.length → w.cell? ⟨bk, j, none⟩ = some (.int .i64 (ns.getD j 0))) (hbk : bk < w.heap.size) (htab : ∀ W, Below w.heap.size w W → PowT W) :
    Calls Tryz.prog 68 #[.slice (some ⟨bk, 0, none⟩) ns.length c] w fun e w' => e = .returned (.string (rowB ns)) ∧ Below w.heap.size w w' := by
  obtain ⟨m, hm⟩ : ∃ m, m = ns.length := ⟨_, rfl⟩
  obtain ⟨i0, hi, hz0, hz1, hz2⟩ := info_parts Tryz.infoStr
  have Hi0 := hide hi
  have Hz0 := hide hz0
  have Hz1 := hide hz1
  have Hz2 := hide hz2
  clear hi hz0 hz1 hz2
  rw [← hm] at hl hl1 hc ⊢
  have HM := hide hm
  have HC := hide hc
  have HK := hide hk
  have HT := hide htab
  have IT : Hid (∀ k, k < m → ∀ W, Below w.heap.size w W → Calls Tryz.prog 86 #[.int .i64 (ns.getD k 0)] W fun e w' => e = .returned (.string (numB (ns.getD k 0))) ∧ Below W.heap.size W w') := hide (fun k hk' W hW => by
    have hmem : ns.getD k 0 ∈ ns := by
      rw [hm] at hk'
      simp [List.getD, List.getElem?_eq_getElem hk']
    have h1 := hk _ hmem
    exact itoa_eq h1.1 h1.2 W (htab W hW))
  clear hm hc hk htab
  go_enter Tryz.func68, Tryz.ntmps68
  go_wp2_with fail
  go_loopw [3, 8] (fun o i wr => ∃ k : Nat, i = .int .i64 (k : Int) ∧ k ≤ m ∧ wr.ownsRow w.heap.size 9 1 o k ((ns.take k).map (fun n => Value.string (numB n))) ∧ Below w.heap.size w wr) (fun _ i _ => 2000 - (intOf i).toNat)
  case atStart => exact ⟨0, rfl, by omega, World.ownsRow_nil _ _ _ _, Below.refl _ _⟩
  case round =>
    obtain ⟨k, rfl, hkm, hown, hbw⟩ := hrel
    obtain ⟨av, cv, rfl⟩ := own_slS hown
    have HO := hide hown
    have HBW := hide hbw
    have hyr : w.heap.size ≤ wr.heap.size := hbw.size
    by_cases hlt : k < m
    · have q0 : wr.cell? ⟨bk, k, none⟩ = some (.int .i64 (ns.getD k 0)) := (hbw.cell (p := ⟨bk, k, none⟩) hbk).trans (HC.out k hlt)
      have I1 := hide (IT.out k hlt wr hbw)
      have HS := hide (take_numB ns k (by rw [← HM.out]; exact hlt))
      obtain ⟨y, hy⟩ : ∃ y, y = ns.getD k 0 := ⟨_, rfl⟩
      rw [← hy] at q0 I1 HS
      clear hy hown hbw
      go_wp2_with fail
      refine I1.out.mono ?_
      rintro e w2 ⟨rfl, hb2⟩
      have hs2 := hb2.size
      have HB2 := hide (HBW.out.trans (hb2.mono hyr))
      have HO2 := hide (own_below HO.out hb2)
      clear hb2
      go_wp2_with (first | (at_builtin; refine wpList_append_own _ rfl _ _ 23 rfl (w.heap.size) 9 i0 _ 1 16 Tryz.underlying23 Hi0.out Hz0.out Hz1.out Hz2.out rfl (by decide) _ _ _ rfl (HO2.out.alloc _) ⟨w2.heap.size, 0, none⟩ 1 1 [.string (numB y)] rfl rfl ?c1 ?c2 ?c3 ?c4 ?c5 ?_))
      case c1 =>
        intro j u hj
        cases j with
        | zero => simp at hj; subst hj; simp [Addr.add]
        | succ j => simp at hj
      case c2 => intro u hu; simp at hu; subst hu; rfl
      case c3 => unfold maxLen; omega
      case c4 => omega
      case c5 => first | omega | (simp; omega)
      intro v2 w40 hown2 hgrow _
      have hg0 : ∀ q, (Value.slice av k cv).ownBlock = some q → w.heap.size ≤ q := own_blk HO.out
      have HB40 := hide (grown_below (HB2.out.alloc (Nat.le_trans hyr hs2) _) hgrow hg0 (by simp; omega))
      have HO3 : Hid (w40.ownsRow w.heap.size 9 1 v2 (k + 1) ((ns.take (k + 1)).map (fun n => Value.string (numB n)))) := hide (by rw [HS.out, List.map_take]; exact hown2)
      clear hown2 hgrow hg0
      go_wp2
      go_roundw
      case rel => exact ⟨k + 1, by go_num, by omega, HO3.out, HB40.out⟩
      case measure => simp [intOf]; omega
    · obtain rfl : k = m := by omega
      have JN : Hid (Calls Tryz.prog 94 #[.slice av k cv, .string ⟨#[32]⟩] wr fun e w' => e = .returned (.string (rowB ns)) ∧ Below wr.heap.size wr w') := hide (by
        obtain ⟨g, cap, hv, hbg, hgl, hcap, _⟩ := own_form HO.out hl1
        rw [hv]
        have hx : (ns.map numB).length = k := by rw [List.length_map, HM.out]
        have h1 := Tryz.strings_Join g 0 cap (ns.map numB) ⟨#[32]⟩ wr (fun j x hj => by
          have hj2 := (List.getElem?_eq_some_iff.1 hj).1
          rw [hx] at hj2
          have h2 := HO.out
          rw [hv] at h2
          rw [Nat.zero_add, h2.cellAt j (by omega), List.take_of_length_le (by rw [← HM.out]; exact Nat.le_refl _), List.getElem?_map]
          rw [List.getElem?_map] at hj
          cases hn : ns[j]? with
          | none => rw [hn] at hj; cases hj
          | some n => rw [hn] at hj; simp at hj; simp [hj]) hgl (by rw [hx]; omega) (by rw [hx]; exact hcap) ?_
        · rw [hx] at h1
          have e : (ns.map numB).map (·.data.toList) = ns.map digL := by
            rw [List.map_map]
            exact List.map_congr_left (fun n hn => numB_digL (HK.out n hn))
          rw [e] at h1
          have e2 : Lib.join (ns.map digL) [32] = rowL ns := rowL_join ns
          have e3 : (⟨(Lib.join (ns.map digL) (⟨#[32]⟩ : ByteArray).data.toList).toArray⟩ : ByteArray) = rowB ns := by
            unfold rowB; rw [← e2]
          rw [e3] at h1
          exact h1
        · have e : (ns.map numB).map (·.data.toList) = ns.map digL := by
            rw [List.map_map]
            exact List.map_congr_left (fun n hn => numB_digL (HK.out n hn))
          rw [e]
          have e2 : Lib.join (ns.map digL) (⟨#[32]⟩ : ByteArray).data.toList = rowL ns := rowL_join ns
          rw [e2]
          have := rowL_le ns HK.out
          rw [← HM.out] at this
          omega)
      clear hown hbw
      go_wp2_with fail
      refine JN.out.mono ?_
      rintro e w2 ⟨rfl, hb2⟩
      have HB2 := hide (HBW.out.trans (hb2.mono hyr))
      clear hb2
      go_wp2
      go_ret
      exact ⟨rfl, HB2.out⟩
end Go.Proofs.YtlnghfmcofmkjaaGreatDoor
