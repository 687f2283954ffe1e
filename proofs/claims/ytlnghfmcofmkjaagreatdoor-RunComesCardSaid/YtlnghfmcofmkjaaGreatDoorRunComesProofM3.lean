/- strconv.Itoa by the shelf's contract. An error as its number: 0 is nil. How the walk asks it for nil. run: number by contract. Opening what came in: slices of integers, of slices of integers, of pairs of integers, of strings; structs of integers by value. Over any program. -/
import Derived.Shelf.LaysM
import Derived.Shelf.Strconv.Itoa3
import Derived.Test.YtlnghfmcofmkjaaGreatDoorProg
import Derived.Test.YtlnghfmcofmkjaaGreatDoorObj
import Derived.WalkKit
import Derived.Test.YtlnghfmcofmkjaaGreatDoorShRun
import Derived.Test.YtlnghfmcofmkjaaGreatDoorRunComesProofM2
import Derived.Handy
import Derived.ProofKit
import Derived.OpenShut
import Derived.ShutString
import Derived.ChangeOld
import Derived.Below
import Derived.Carry
import Derived.SliceStrings
import Derived.Deep.SlicePairs
import Derived.Deep.Matrix
import Derived.Lib.SmallJoins
namespace Go.Proofs.YtlnghfmcofmkjaaGreatDoor
open Go.Shelf

def Tryz.laysM171_ren : Go.Shelf.Ren := ⟨fun | 171 => 86 | 243 => 104 | 246 => 124 | 283 => 139 | 284 => 140 | 285 => 141 | 286 => 142 | 129 => 154 | 317 => 153 | 318 => 155 | 319 => 156 | 320 => 157 | 337 => 162 | 338 => 163 | n => n, fun | 3 => 3 | 9 => 9 | 2 => 2 | 4 => 4 | 171 => 227 | 0 => 0 | 53 => 221 | 37 => 39 | 5 => 5 | 173 => 230 | 212 => 245 | 51 => 218 | 20 => 20 | 213 => 246 | 46 => 200 | 232 => 254 | 233 => 255 | n => n, fun | 17 => 8 | 18 => 9 | 19 => 10 | n => n⟩
theorem Tryz.laysM171 : Go.Proofs.LaysM.n171 Tryz.prog Tryz.laysM171_ren := {
  mixed := by kernel_rfl
  f129 := Tryz.func154.trans (congrArg some (by kernel_rfl))
  f171 := Tryz.func86.trans (congrArg some (by kernel_rfl))
  f243 := Tryz.func104.trans (congrArg some (by kernel_rfl))
  f246 := Tryz.func124.trans (congrArg some (by kernel_rfl))
  f283 := Tryz.func139.trans (congrArg some (by kernel_rfl))
  f284 := Tryz.func140.trans (congrArg some (by kernel_rfl))
  f285 := Tryz.func141.trans (congrArg some (by kernel_rfl))
  f286 := Tryz.func142.trans (congrArg some (by kernel_rfl))
  f317 := Tryz.func153.trans (congrArg some (by kernel_rfl))
  f318 := Tryz.func155.trans (congrArg some (by kernel_rfl))
  f319 := Tryz.func156.trans (congrArg some (by kernel_rfl))
  f320 := Tryz.func157.trans (congrArg some (by kernel_rfl))
  f337 := Tryz.func162.trans (congrArg some (by kernel_rfl))
  f338 := Tryz.func163.trans (congrArg some (by kernel_rfl))
  t0 := Tryz.underlying0
  a0 := Tryz.isAgg0
  z0 := Tryz.sizeOf0
  v0 := Tryz.zeroValue0
  t2 := Tryz.underlying2
  a2 := Tryz.isAgg2
  z2 := Tryz.sizeOf2
  v2 := Tryz.zeroValue2
  t3 := Tryz.underlying3
  a3 := Tryz.isAgg3
  z3 := Tryz.sizeOf3
  v3 := Tryz.zeroValue3
  t4 := Tryz.underlying4
  a4 := Tryz.isAgg4
  z4 := Tryz.sizeOf4
  v4 := Tryz.zeroValue4
  t5 := Tryz.underlying5
  a5 := Tryz.isAgg5
  z5 := Tryz.sizeOf5
  v5 := Tryz.zeroValue5
  t9 := Tryz.underlying9
  a9 := Tryz.isAgg9
  z9 := Tryz.sizeOf9
  v9 := Tryz.zeroValue9
  t20 := Tryz.underlying20
  a20 := Tryz.isAgg20
  z20 := Tryz.sizeOf20
  v20 := Tryz.zeroValue20
  t37 := Tryz.underlying39
  a37 := Tryz.isAgg39
  z37 := Tryz.sizeOf39
  v37 := Tryz.zeroValue39
  t46 := Tryz.underlying200
  a46 := Tryz.isAgg200
  z46 := Tryz.sizeOf200
  v46 := Tryz.zeroValue200
  t51 := Tryz.underlying218
  a51 := Tryz.isAgg218
  z51 := Tryz.sizeOf218
  v51 := Tryz.zeroValue218
  t53 := Tryz.underlying221
  a53 := Tryz.isAgg221
  z53 := Tryz.sizeOf221
  v53 := Tryz.zeroValue221
  t171 := Tryz.underlying227
  a171 := Tryz.isAgg227
  z171 := Tryz.sizeOf227
  v171 := Tryz.zeroValue227
  t173 := Tryz.underlying230
  a173 := Tryz.isAgg230
  z173 := Tryz.sizeOf230
  v173 := Tryz.zeroValue230
  t212 := Tryz.underlying245
  a212 := Tryz.isAgg245
  z212 := Tryz.sizeOf245
  v212 := Tryz.zeroValue245
  t213 := Tryz.underlying246
  a213 := Tryz.isAgg246
  z213 := Tryz.sizeOf246
  t232 := Tryz.underlying254
  a232 := Tryz.isAgg254
  z232 := Tryz.sizeOf254
  v232 := Tryz.zeroValue254
  t233 := Tryz.underlying255
  a233 := Tryz.isAgg255
  z233 := Tryz.sizeOf255
  v233 := Tryz.zeroValue255
  g17 := by kernel_rfl
  g18 := by kernel_rfl
  g19 := by kernel_rfl
  i0 := by kernel_rfl
  i2 := by kernel_rfl
  i3 := by kernel_rfl
  i4 := by kernel_rfl
  i5 := by kernel_rfl
  i9 := by kernel_rfl
  i20 := by kernel_rfl
  i37 := by kernel_rfl
  i46 := by kernel_rfl
  i51 := by kernel_rfl
  i53 := by kernel_rfl
  i171 := by kernel_rfl
  i173 := by kernel_rfl
  i212 := by kernel_rfl
  i232 := by kernel_rfl
  i233 := by kernel_rfl
  m17 := by kernel_rfl
  m18 := by kernel_rfl
  m19 := by kernel_rfl }
open Go.RowKit Go.Sort Go.Lib in
theorem Tryz.strconv_Itoa (n : Int) (h0 : -9223372036854775808 ≤ n) (h1 : n ≤ 9223372036854775807) (w : World) (htab : Lib.TabIs Tryz.prog w "internal/strconv.uint64pow10" .u64 Lib.pow10Tab) :
    Calls Tryz.prog 86 #[.int .i64 n] w fun e w' => e = .returned (.string ⟨(Lib.itoa n).toArray⟩) ∧ ∃ k os, w' = grow (w.drewN k) os := Any.strconv_Itoa Tryz.laysM171 n h0 h1 w htab
open Go.RowKit
/-- the numeral of a number -/
def numB (n : Int) : ByteArray := ⟨(Lib.itoa n).toArray⟩
theorem numB_size {n : Int} (h0 : 0 ≤ n) (h1 : n < 1000000) : 1 ≤ (numB n).size ∧ (numB n).size ≤ 6 := by
  obtain ⟨u, rfl⟩ : ∃ u : Nat, n = u := ⟨n.toNat, by omega⟩
  have e : (numB (u : Int)).size = Lib.nDigits u := by
    unfold numB
    rw [Lib.itoa_nonneg]
    show (Lib.decDigits u).toArray.size = _
    rw [List.size_toArray, Lib.decDigits_length]
  rw [e]
  have hu : u < 1000000 := by omega
  by_cases a1 : u < 10
  · rw [Lib.nDigits_small a1]; omega
  · by_cases a2 : u < 100
    · rw [Lib.nDigits_unique 1 u (by omega) (by omega)]; omega
    · by_cases a3 : u < 1000
      · rw [Lib.nDigits_unique 2 u (by omega) (by omega)]; omega
      · by_cases a4 : u < 10000
        · rw [Lib.nDigits_unique 3 u (by omega) (by omega)]; omega
        · by_cases a5 : u < 100000
          · rw [Lib.nDigits_unique 4 u (by omega) (by omega)]; omega
          · rw [Lib.nDigits_unique 5 u (by omega) (by omega)]; omega
theorem below_grow {B : Nat} {a w : World} (os : Array Obj) (h : Below B a w) (hB : B ≤ w.heap.size) : Below B a (Go.Sort.grow w os) :=
  h.trans ⟨rfl, rfl, rfl, by simp [Go.Sort.grow], fun j hj => by
    show (w.heap ++ os)[j]? = w.heap[j]?
    rw [Array.getElem?_append_left (by omega)]⟩
theorem itoa_eq {n : Int} (h0 : 0 ≤ n) (h1 : n < 1000000) (w : World) (htab : Lib.TabIs Tryz.prog w "internal/strconv.uint64pow10" .u64 Lib.pow10Tab) :
    Calls Tryz.prog 86 #[.int .i64 n] w fun e w' => e = .returned (.string (numB n)) ∧ Below w.heap.size w w' := by
  refine (Tryz.strconv_Itoa n (by omega) (by omega) w htab).mono ?_
  rintro e w' ⟨rfl, k, os, rfl⟩
  exact ⟨rfl, below_grow os (bel_drewN (Below.refl _ _) k) (Nat.le_refl _)⟩
end Go.Proofs.YtlnghfmcofmkjaaGreatDoor

namespace Go.Proofs.YtlnghfmcofmkjaaGreatDoor
open Go.RowKit

theorem retB {a b : Bool} (h : a = b) : Ending.returned (.bool a) = .returned (.bool b) := by rw [h]
theorem retI {k : IntKind} {a b : Int} (h : a = b) : Ending.returned (.int k a) = .returned (.int k b) := by rw [h]
theorem retIE {k : IntKind} {a b : Int} {x y : Value} (h : a = b) (h2 : x = y) : Ending.returned (.tuple #[.int k a, x]) = .returned (.tuple #[.int k b, y]) := by rw [h, h2]

/-- The error of number c: nil, or the Errno. -/
def errV (c : Int) : Value := if c = 0 then .nilIface else .iface 82 (.int .i64 c)
theorem errV_0 : errV 0 = .nilIface := rfl
theorem errV_ne {c : Int} (h : c ≠ 0) : errV c = .iface 82 (.int .i64 c) := if_neg h
theorem errV_1 : Value.iface 82 (.int .i64 1) = errV 1 := rfl
theorem errV_3 : Value.iface 82 (.int .i64 3) = errV 3 := rfl
theorem errV_4 : Value.iface 82 (.int .i64 4) = errV 4 := rfl
theorem errV_5 : Value.iface 82 (.int .i64 5) = errV 5 := rfl
theorem errV_6 : Value.iface 82 (.int .i64 6) = errV 6 := rfl
theorem errV_7 : Value.iface 82 (.int .i64 7) = errV 7 := rfl
theorem errV_8 : Value.iface 82 (.int .i64 8) = errV 8 := rfl
theorem errV_9 : Value.iface 82 (.int .i64 9) = errV 9 := rfl

theorem Tryz.errIface : Tryz.prog.underlying 33 = some (.interface (Tryz.prog.methodsAt 33)) := by kernel_rfl
theorem run_neq_errV (c : Int) (w : World) : (binOp .neq 33 (errV c) .nilIface).run Tryz.prog w = .ok (.bool (c != 0)) w := by
  by_cases h : c = 0
  · subst h; exact run_neq_nil_nil w 33 Tryz.errIface
  · rw [errV_ne h, run_neq_held_nil w 33 _ _ Tryz.errIface]
    congr 1; congr 1; exact (bne_iff_ne.2 h).symm
theorem run_eql_errV (c : Int) (w : World) : (binOp .eql 33 (errV c) .nilIface).run Tryz.prog w = .ok (.bool (c == 0)) w := by
  by_cases h : c = 0
  · subst h; exact run_eql_nil_nil w 33 Tryz.errIface
  · rw [errV_ne h, run_eql_held_nil w 33 _ _ Tryz.errIface]
    congr 1; congr 1; exact (beq_eq_false_iff_ne.2 h).symm
theorem run_guard_errV (op : BinOp) (c : Int) (w : World) (x : Operand) : (eqGuard op 33 x (.const .nilIface) (errV c) .nilIface).run Tryz.prog w = .ok () w := by
  by_cases h : c = 0
  · subst h; rw [errV_0]; cases op <;> simp [go_sem, eqGuard]
  · rw [errV_ne h]; cases op <;> simp [go_sem, eqGuard]
attribute [go_sem] run_neq_errV run_eql_errV run_guard_errV
end Go.Proofs.YtlnghfmcofmkjaaGreatDoor

namespace Go.Proofs.YtlnghfmcofmkjaaGreatDoor
open Go.RowKit

theorem itoa_any {n : Int} (h0 : 0 ≤ n) (h1 : n ≤ 9223372036854775807) (w : World) (htab : Lib.TabIs Tryz.prog w "internal/strconv.uint64pow10" .u64 Lib.pow10Tab) :
    Calls Tryz.prog 86 #[.int .i64 n] w fun e w' => e = .returned (.string (numB n)) ∧ Below w.heap.size w w' := by
  refine (Tryz.strconv_Itoa n (by omega) (by omega) w htab).mono ?_
  rintro e w' ⟨rfl, k, os, rfl⟩
  exact ⟨rfl, below_grow os (bel_drewN (Below.refl _ _) k) (Nat.le_refl _)⟩
theorem ba_of_list {a b : ByteArray} (h : a.data.toList = b.data.toList) : a = b := by
  apply ByteArray.ext
  exact Array.toList_inj.1 h
/-- the table of powers of ten -/
def PowT (w : World) : Prop := Lib.TabIs Tryz.prog w "internal/strconv.uint64pow10" .u64 Lib.pow10Tab
theorem runNumber_ok {s : ByteArray} {u : Nat} (h : numL s.data.toList = some u) (w : World) (htab : ∀ W, Below w.heap.size w W → PowT W) :
    Calls Tryz.prog 62 #[.string s] w fun e w' => e = .returned (.tuple #[.int .i64 (u : Int), .bool true]) ∧ Below w.heap.size w w' := by
  obtain ⟨h1, h2, h3, h4⟩ := numL_atoi h
  have hsz : s.data.toList.length = s.size := by simp
  have hs6 : s.size ≤ 6 := by omega
  have hsE : numB (u : Int) = s := ba_of_list (by unfold numB; simpa using h2)
  have AT := hide (atoi_ok (by omega) h1 w)
  have IT := hide (fun W (hW : Below w.heap.size w W) => itoa_any (n := (u : Int)) (by omega) (by omega) W (htab W hW))
  rw [hsE] at IT
  clear h h1 h2 htab hsE hsz h4
  go_enter Tryz.func62, Tryz.ntmps62
  go_wp2_with fail
  refine AT.out.mono ?_
  rintro e w1 ⟨rfl, hb1⟩
  have HB := hide hb1
  clear hb1
  go_wp2_with fail
  refine (IT.out _ HB.out).mono ?_
  rintro e w2 ⟨rfl, hb2⟩
  have HC := hide (HB.out.trans (hb2.mono HB.out.size))
  clear hb2
  go_wp2
  go_ret2
  exact ⟨rfl, HC.out⟩
theorem runNumber_bad {s : ByteArray} (hs : s.size ≤ 1000000) (h : numL s.data.toList = none) (w : World) (hv : ErrVars w) (htab : ∀ W, Below w.heap.size w W → PowT W) :
    Calls Tryz.prog 62 #[.string s] w fun e w' => (∃ n, e = .returned (.tuple #[.int .i64 n, .bool false])) ∧ Below w.heap.size w w' := by
  have hsz : s.data.toList.length = s.size := by simp
  by_cases hk : noNum s
  · have AT := hide (atoi_bad hs hk w hv)
    clear h hv htab hk hsz
    go_enter Tryz.func62, Tryz.ntmps62
    go_wp2_with fail
    refine AT.out.mono ?_
    rintro e w1 ⟨⟨n, p, rfl⟩, hb1⟩
    have HB := hide hb1
    clear hb1
    go_wp2
    go_ret2
    exact ⟨⟨_, rfl⟩, HB.out⟩
  · obtain ⟨v, hv1⟩ : ∃ v, Lib.atoiAll s.data.toList = .ok v := by
      rcases Classical.not_forall.1 hk with ⟨v, h1⟩
      exact ⟨v, Classical.not_not.1 h1⟩
    have hb := Lib.atoiAll_bounds hv1
    have AT := hide (atoi_ok hs hv1 w)
    by_cases h0 : 0 ≤ v
    · by_cases h6 : s.size ≤ 6
      · have IT := hide (fun W (hW : Below w.heap.size w W) => itoa_any h0 (by omega) W (htab W hW))
        have hne : numB v ≠ s := fun e => by
          have := numL_back (l := s.data.toList) h0 (by omega) (by rw [← e]; simp [numB])
          rw [this] at h
          cases h
        have hneB : ((numB v).toList == s.toList) = false := beq_eq_false_iff_ne.2 (fun e => hne (ba_of_list (by rw [← ByteArray.toList_eq, ← ByteArray.toList_eq]; exact e)))
        clear h hv htab hk hsz hv1 hb hne
        go_enter Tryz.func62, Tryz.ntmps62
        go_wp2_with fail
        refine AT.out.mono ?_
        rintro e w1 ⟨rfl, hb1⟩
        have HB := hide hb1
        clear hb1
        go_wp2_with fail
        refine (IT.out _ HB.out).mono ?_
        rintro e w2 ⟨rfl, hb2⟩
        have HC := hide (HB.out.trans (hb2.mono HB.out.size))
        clear hb2
        go_wp2
        go_ret2
        exact ⟨⟨_, rfl⟩, HC.out⟩
      · clear h hv htab hk hsz hv1 hb
        have h6' : 6 < s.size := by omega
        clear h6
        go_enter Tryz.func62, Tryz.ntmps62
        go_wp2_with fail
        refine AT.out.mono ?_
        rintro e w1 ⟨rfl, hb1⟩
        have HB := hide hb1
        clear hb1
        go_wp2
        go_ret2
        exact ⟨⟨_, rfl⟩, HB.out⟩
    · clear h hv htab hk hsz hv1 hb
      have h0' : v < 0 := by omega
      clear h0
      go_enter Tryz.func62, Tryz.ntmps62
      go_wp2_with fail
      refine AT.out.mono ?_
      rintro e w1 ⟨rfl, hb1⟩
      have HB := hide hb1
      clear hb1
      go_wp2
      go_ret2
      exact ⟨⟨_, rfl⟩, HB.out⟩
end Go.Proofs.YtlnghfmcofmkjaaGreatDoor

namespace Go.Proofs.YtlnghfmcofmkjaaGreatDoor
open Go.ChangeShapes Go.WideShapes Go.ChangeAt Go.RowKit Go.Deep Go.Joins

/-- A slice of n elements, each of 'k' cells, at address a: cell j of element i holds 'f i j'. -/
def RowAt (w : World) (a : Option Addr) (len k : Nat) (f : Nat → Nat → Value) : Prop :=
  len = 0 ∨ ∃ b off, a = some ⟨b, off, none⟩ ∧ b < w.heap.size ∧ ∀ i j, i < len → j < k → w.cell? ⟨b, off + i * k + j, none⟩ = some (f i j)

/-- A slice of integers that came in. -/
def IntRow (w : World) (a : Option Addr) (len : Nat) (zs : List Int) : Prop :=
  zs.length = len ∧ len ≤ maxLen ∧ (∀ n ∈ zs, (Lit.int .i64 n).wf = true) ∧ RowAt w a len 1 (fun i _ => .int .i64 (zs.getD i 0))

/-- A slice of pairs of integers that came in. -/
def PairRow (w : World) (a : Option Addr) (len : Nat) (zs : List (Int × Int)) : Prop :=
  zs.length = len ∧ len ≤ maxLen ∧ (∀ n ∈ zs, (Lit.int .i64 n.1).wf = true ∧ (Lit.int .i64 n.2).wf = true) ∧
    RowAt w a len 2 (fun i j => .int .i64 (if j = 0 then (zs.getD i (0, 0)).1 else (zs.getD i (0, 0)).2))

/-- A slice of strings that came in. -/
def StrRow (w : World) (a : Option Addr) (len : Nat) (ss : List ByteArray) : Prop :=
  ss.length = len ∧ len ≤ maxLen ∧ (∀ s ∈ ss, s.size ≤ maxLen) ∧ RowAt w a len 1 (fun i _ => .string (ss.getD i ByteArray.empty))

/-- A slice of slices of integers that came in. -/
def MatRow (w : World) (a : Option Addr) (len : Nat) (zs : List (List Int)) : Prop :=
  zs.length = len ∧ len ≤ maxLen ∧ ∃ (A : Nat → Option Addr) (C : Nat → Nat), RowAt w a len 1 (fun i _ => .slice (A i) (zs.getD i []).length (C i)) ∧
    ∀ i, i < len → (zs.getD i []).length ≤ C i ∧ C i ≤ maxLen ∧ IntRow w (A i) (zs.getD i []).length (zs.getD i [])

theorem block_lt {w : World} {a : Addr} {v : Value} (h : w.cell? a = some v) : a.block < w.heap.size := by
  rcases Nat.lt_or_ge a.block w.heap.size with h1 | h1
  · exact h1
  · simp [World.cell?, Array.getElem?_eq_none h1] at h

/-- What is said of a row below B holds behind whatever keeps what is below B. -/
theorem RowAt.below {w w' : World} {a : Option Addr} {len k : Nat} {f : Nat → Nat → Value} (h : RowAt w a len k f) (hb : Below w.heap.size w w') : RowAt w' a len k f := by
  rcases h with h | ⟨b, off, rfl, hlt, hc⟩
  · exact .inl h
  · exact .inr ⟨b, off, rfl, Nat.lt_of_lt_of_le hlt hb.size, fun i j hi hj => (hb.cell (p := ⟨b, off + i * k + j, none⟩) hlt).trans (hc i j hi hj)⟩
theorem IntRow.below {w w' : World} {a : Option Addr} {len : Nat} {zs : List Int} (h : IntRow w a len zs) (hb : Below w.heap.size w w') : IntRow w' a len zs :=
  ⟨h.1, h.2.1, h.2.2.1, h.2.2.2.below hb⟩
theorem PairRow.below {w w' : World} {a : Option Addr} {len : Nat} {zs : List (Int × Int)} (h : PairRow w a len zs) (hb : Below w.heap.size w w') : PairRow w' a len zs :=
  ⟨h.1, h.2.1, h.2.2.1, h.2.2.2.below hb⟩
theorem StrRow.below {w w' : World} {a : Option Addr} {len : Nat} {zs : List ByteArray} (h : StrRow w a len zs) (hb : Below w.heap.size w w') : StrRow w' a len zs :=
  ⟨h.1, h.2.1, h.2.2.1, h.2.2.2.below hb⟩
theorem MatRow.below {w w' : World} {a : Option Addr} {len : Nat} {zs : List (List Int)} (h : MatRow w a len zs) (hb : Below w.heap.size w w') : MatRow w' a len zs := by
  obtain ⟨h1, h2, A, C, h3, h4⟩ := h
  exact ⟨h1, h2, A, C, h3.below hb, fun i hi => ⟨(h4 i hi).1, (h4 i hi).2.1, (h4 i hi).2.2.below hb⟩⟩

/-- no element, or a row whose cells are known -/
theorem IntRow.split {w : World} {a : Option Addr} {len : Nat} {zs : List Int} (h : IntRow w a len zs) :
    len = 0 ∨ ∃ b off, a = some ⟨b, off, none⟩ ∧ b < w.heap.size ∧ len ≤ maxLen ∧ zs.length = len ∧ ∀ i, i < len → w.cell? ⟨b, off + i, none⟩ = some (.int .i64 (zs.getD i 0)) := by
  obtain ⟨h1, h2, _, h4⟩ := h
  rcases h4 with h0 | ⟨b, off, rfl, hlt, hc⟩
  · exact .inl h0
  · exact .inr ⟨b, off, rfl, hlt, h2, h1, fun i hi => by have := hc i 0 hi (by omega); simpa using this⟩
theorem MatRow.split {w : World} {a : Option Addr} {len : Nat} {zs : List (List Int)} (h : MatRow w a len zs) :
    len = 0 ∨ ∃ b off, ∃ (A : Nat → Option Addr) (C : Nat → Nat), a = some ⟨b, off, none⟩ ∧ b < w.heap.size ∧ len ≤ maxLen ∧ zs.length = len ∧ (∀ i, i < len → w.cell? ⟨b, off + i, none⟩ = some (.slice (A i) (zs.getD i []).length (C i))) ∧
      ∀ i, i < len → (zs.getD i []).length ≤ C i ∧ C i ≤ maxLen ∧ IntRow w (A i) (zs.getD i []).length (zs.getD i []) := by
  obtain ⟨h1, h2, A, C, h3, h4⟩ := h
  rcases h3 with h0 | ⟨b, off, rfl, hlt, hc⟩
  · exact .inl h0
  · exact .inr ⟨b, off, A, C, rfl, hlt, h2, h1, fun i hi => by have := hc i 0 hi (by omega); simpa using this, h4⟩
theorem cells_below {w w' : World} {b off len : Nat} {f : Nat → Value} (hlt : b < w.heap.size) (h : ∀ i, i < len → w.cell? ⟨b, off + i, none⟩ = some (f i)) (hb : Below w.heap.size w w') :
    ∀ i, i < len → w'.cell? ⟨b, off + i, none⟩ = some (f i) := fun i hi => (hb.cell (p := ⟨b, off + i, none⟩) hlt).trans (h i hi)

section
variable {H : Type} {enc : TypeId × Value → H} {P : Program} {W : World} {base : Nat}

theorem row_of_add {a : Addr} {len : Nat} {f : Nat → Value} (h : ∀ i, i < len → W.cell? (a.add i) = some (f i)) : RowAt W (some a) len 1 (fun i _ => f i) := by
  rcases Nat.eq_zero_or_pos len with h0 | hp
  · exact .inl h0
  · obtain ⟨b, off, spot⟩ := a
    have hs : spot = none := by simpa [Addr.add] using World.cell?_spot (h 0 hp)
    subst hs
    refine .inr ⟨b, off, rfl, ?_, fun i j hi hj => ?_⟩
    · have := block_lt (h 0 hp); simpa [Addr.add] using this
    · obtain rfl : j = 0 := by omega
      have := h i hi
      rw [add_plain] at this
      rw [Nat.mul_one]
      exact this

theorem open_introw {T E : TypeId} {v : Value} {d : DataW H} {p : List MemPlace} (ht : P.underlying T = some (.slice E)) (he : P.underlying E = some (.int .i64)) (hc : P.cellsOf E = 1)
    (hv : Value.okWide P W .any base T v) (h : DataW.Trod enc P W 0 (fun _ => true) true T v d p) :
    ∃ a len cap zs, v = .slice a len cap ∧ len ≤ cap ∧ cap ≤ maxLen ∧ IntRow W a len zs := by
  obtain ⟨a0, len0, cap0, rfl⟩ := okWide_slice ht hv
  obtain ⟨fuel, hf⟩ := h
  rcases open_ints ht he hc hf with ⟨hcs, _⟩ | ⟨x, l, c, zs, hcs, _, hl, hm, hz, _, hcell, hwz⟩
  · simp [Value.cells] at hcs
    obtain ⟨rfl, rfl, rfl⟩ := hcs
    exact ⟨none, 0, 0, [], rfl, by simp, by simp, rfl, by simp, by simp, .inl rfl⟩
  · simp [Value.cells] at hcs
    obtain ⟨rfl, rfl, rfl⟩ := hcs
    simp only [if_true] at hz
    refine ⟨some x, len0, cap0, zs.take len0, rfl, hl, hm, by simp; omega, by omega, fun n hn => hwz n (List.mem_of_mem_take hn), ?_⟩
    have := row_of_add (W := W) (a := x) (len := len0) (f := fun i => .int .i64 ((zs.take len0).getD i 0)) (fun i hi => by
      rw [hcell i (by omega)]
      simp [List.getD, hi])
    exact this

theorem open_strrow {T E : TypeId} {v : Value} {d : DataW H} {p : List MemPlace} (ht : P.underlying T = some (.slice E)) (he : P.underlying E = some .string) (hc : P.cellsOf E = 1)
    (hv : Value.okWide P W .any base T v) (h : DataW.Trod enc P W 0 (fun _ => true) true T v d p) :
    ∃ a len cap ss, v = .slice a len cap ∧ len ≤ cap ∧ cap ≤ maxLen ∧ StrRow W a len ss := by
  obtain ⟨a0, len0, cap0, rfl⟩ := okWide_slice ht hv
  obtain ⟨fuel, hf⟩ := h
  rcases open_strings ht he hc hf with ⟨hcs, _⟩ | ⟨x, l, c, zs, hcs, _, hl, hm, hz, _, hcell, hwz⟩
  · simp [Value.cells] at hcs
    obtain ⟨rfl, rfl, rfl⟩ := hcs
    exact ⟨none, 0, 0, [], rfl, by simp, by simp, rfl, by simp, by simp, .inl rfl⟩
  · simp [Value.cells] at hcs
    obtain ⟨rfl, rfl, rfl⟩ := hcs
    simp only [if_true] at hz
    refine ⟨some x, len0, cap0, zs.take len0, rfl, hl, hm, by simp; omega, by omega, fun n hn => hwz n (List.mem_of_mem_take hn), ?_⟩
    have := row_of_add (W := W) (a := x) (len := len0) (f := fun i => .string ((zs.take len0).getD i ByteArray.empty)) (fun i hi => by
      rw [hcell i (by omega)]
      simp [List.getD, hi])
    exact this

theorem open_matrow {T E Q : TypeId} {v : Value} {d : DataW H} {p : List MemPlace} (ht : P.underlying T = some (.slice E)) (he : P.underlying E = some (.slice Q)) (hq : P.underlying Q = some (.int .i64)) (hc : P.cellsOf E = 1) (hcq : P.cellsOf Q = 1)
    (hv : Value.okWide P W .any base T v) (h : DataW.Trod enc P W 0 (fun _ => true) true T v d p) :
    ∃ a len cap zs, v = .slice a len cap ∧ len ≤ cap ∧ cap ≤ maxLen ∧ MatRow W a len zs := by
  obtain ⟨a0, len0, cap0, rfl⟩ := okWide_slice ht hv
  obtain ⟨fuel, hf⟩ := h
  rcases open_int_rows ht he hq hc hcq hf with ⟨hcs, _⟩ | ⟨x, l, c, A, L, C, Z, hcs, _, hl, hm, _, hcell⟩
  · simp [Value.cells] at hcs
    obtain ⟨rfl, rfl, rfl⟩ := hcs
    exact ⟨none, 0, 0, [], rfl, by simp, by simp, rfl, by simp, fun _ => none, fun _ => 0, .inl rfl, fun i hi => absurd hi (by omega)⟩
  · simp [Value.cells] at hcs
    obtain ⟨rfl, rfl, rfl⟩ := hcs
    let zs : List (List Int) := (List.range len0).map fun r => (Z r).take (L r)
    have hlen : zs.length = len0 := by simp [zs]
    have hget : ∀ r, r < len0 → zs.getD r [] = (Z r).take (L r) := by intro r hr; simp [zs, List.getD, hr]
    have hll : ∀ r, r < len0 → ((Z r).take (L r)).length = L r := by
      intro r hr; obtain ⟨_, h2, _, h4, _⟩ := hcell r (by omega); simp; omega
    refine ⟨some x, len0, cap0, zs, rfl, hl, hm, hlen, by omega, A, C, ?_, ?_⟩
    · refine row_of_add (W := W) (a := x) (len := len0) (f := fun i => .slice (A i) (zs.getD i []).length (C i)) (fun i hi => ?_)
      rw [(hcell i (by omega)).1, hget i hi, hll i hi]
    · intro i hi
      obtain ⟨_, h2, h3, h4, h5, h6, h7⟩ := hcell i (by omega)
      rw [hget i hi, hll i hi]
      refine ⟨h2, h3, hll i hi, by omega, fun n hn => h5 n (List.mem_of_mem_take hn), ?_⟩
      cases hA : A i with
      | none => exact .inl (by have := h6 hA; omega)
      | some a' =>
        have h8 := (h7 a' hA).2
        refine row_of_add (W := W) (a := a') (len := L i) (f := fun j => .int .i64 (((Z i).take (L i)).getD j 0)) (fun j hj => ?_)
        rw [h8 j (by omega)]
        simp [List.getD, hj]

theorem open_pairrow {T E F0 F1 : TypeId} {f0 f1 : Field} {v : Value} {d : DataW H} {p : List MemPlace} (ht : P.underlying T = some (.slice E)) (he : P.underlying E = some (.struct #[f0, f1]))
    (ce : P.cellsOf E = 2) (o0 : f0.offset = 0) (o1 : f1.offset = 1) (t0 : f0.type = F0) (t1 : f1.type = F1) (c0 : P.cellsOf F0 = 1) (c1 : P.cellsOf F1 = 1) (u0 : P.underlying F0 = some (.int .i64)) (u1 : P.underlying F1 = some (.int .i64))
    (hv : Value.okWide P W .any base T v) (h : DataW.Trod enc P W 0 (fun _ => true) true T v d p) :
    ∃ a len cap zs, v = .slice a len cap ∧ len ≤ cap ∧ cap ≤ maxLen ∧ PairRow W a len zs := by
  subst t0; subst t1
  obtain ⟨a0, len0, cap0, rfl⟩ := okWide_slice ht hv
  obtain ⟨fuel, hf⟩ := h
  rcases open_slice_pairs ht he ce o0 o1 c0 c1 hf with ⟨hcs, _⟩ | ⟨x, l, c, m, n, V0, V1, D0, D1, P0, P1, hcs, _, hl, hm, hmm, _, hcell⟩
  · simp [Value.cells] at hcs
    obtain ⟨rfl, rfl, rfl⟩ := hcs
    exact ⟨none, 0, 0, [], rfl, by simp, by simp, rfl, by simp, by simp, .inl rfl⟩
  · simp [Value.cells] at hcs
    obtain ⟨rfl, rfl, rfl⟩ := hcs
    simp only [if_true] at hmm
    subst hmm
    have each : ∀ i, i < len0 → ∃ q : Int × Int, V0 i = .int .i64 q.1 ∧ V1 i = .int .i64 q.2 ∧ (Lit.int .i64 q.1).wf = true ∧ (Lit.int .i64 q.2).wf = true := by
      intro i hi
      obtain ⟨_, _, h0, h1⟩ := hcell i (by omega)
      obtain ⟨n0, e0, _, w0⟩ := DataW.trod_int u0 h0
      obtain ⟨n1, e1, _, w1⟩ := DataW.trod_int u1 h1
      simp at e0 e1
      exact ⟨(n0, n1), e0, e1, w0, w1⟩
    obtain ⟨q, hq⟩ := choose_lt each
    have hget : ∀ i, i < len0 → ((List.range len0).map q).getD i (0, 0) = q i := by intro i hi; simp [List.getD, hi]
    refine ⟨some x, len0, _, (List.range len0).map q, rfl, hl, hm, by simp, by omega, ?_, ?_⟩
    · intro n hn
      obtain ⟨i, hi, rfl⟩ := List.mem_map.1 hn
      exact ⟨(hq i (List.mem_range.1 hi)).2.2.1, (hq i (List.mem_range.1 hi)).2.2.2⟩
    · rcases Nat.eq_zero_or_pos len0 with h0 | hp
      · exact .inl h0
      · obtain ⟨b, off, spot⟩ := x
        have hs : spot = none := by simpa [Addr.add] using World.cell?_spot (hcell 0 (by omega)).1
        subst hs
        refine .inr ⟨b, off, rfl, ?_, fun i j hi hj => ?_⟩
        · have := block_lt (hcell 0 (by omega)).1; simpa [Addr.add] using this
        · have hc := hcell i (by omega)
          have hi' := hq i hi
          simp only [hget i hi]
          match j, hj with
          | 0, _ => have := hc.1; rw [hi'.1, add_plain] at this; exact this
          | 1, _ => have := hc.2.1; rw [hi'.2.1, add_plain] at this; exact this

theorem open_ints2 {T F0 F1 : TypeId} {f0 f1 : Field} {v : Value} {d : DataW H} {p : List MemPlace} (hs : P.underlying T = some (.struct #[f0, f1])) (hone : oneCellFields P #[f0, f1] = true) (hC : P.cellsOf T = 2)
    (t0 : f0.type = F0) (t1 : f1.type = F1) (u0 : P.underlying F0 = some (.int .i64)) (u1 : P.underlying F1 = some (.int .i64))
    (hv : Value.okWide P W .any base T v) (h : DataW.Trod enc P W 0 (fun _ => true) true T v d p) :
    ∃ a b : Int, v = .agg #[.int .i64 a, .int .i64 b] ∧ (Lit.int .i64 a).wf = true ∧ (Lit.int .i64 b).wf = true := by
  subst t0; subst t1
  obtain ⟨v0, v1, y0, y1, n, rfl, _, _, h0, h1⟩ := open_agg2 hs hone hC hv h
  obtain ⟨n0, e0, _, w0⟩ := DataW.trod_int u0 h0
  obtain ⟨n1, e1, _, w1⟩ := DataW.trod_int u1 h1
  simp at e0 e1
  subst e0; subst e1
  exact ⟨n0, n1, rfl, w0, w1⟩
theorem open_ints3 {T F0 F1 F2 : TypeId} {f0 f1 f2 : Field} {v : Value} {d : DataW H} {p : List MemPlace} (hs : P.underlying T = some (.struct #[f0, f1, f2])) (hone : oneCellFields P #[f0, f1, f2] = true) (hC : P.cellsOf T = 3)
    (t0 : f0.type = F0) (t1 : f1.type = F1) (t2 : f2.type = F2) (u0 : P.underlying F0 = some (.int .i64)) (u1 : P.underlying F1 = some (.int .i64)) (u2 : P.underlying F2 = some (.int .i64))
    (hv : Value.okWide P W .any base T v) (h : DataW.Trod enc P W 0 (fun _ => true) true T v d p) :
    ∃ a b c : Int, v = .agg #[.int .i64 a, .int .i64 b, .int .i64 c] ∧ (Lit.int .i64 a).wf = true ∧ (Lit.int .i64 b).wf = true ∧ (Lit.int .i64 c).wf = true := by
  subst t0; subst t1; subst t2
  obtain ⟨v0, v1, v2, y0, y1, y2, n, rfl, _, _, h0, h1, h2⟩ := open_agg3 hs hone hC hv h
  obtain ⟨n0, e0, _, w0⟩ := DataW.trod_int u0 h0
  obtain ⟨n1, e1, _, w1⟩ := DataW.trod_int u1 h1
  obtain ⟨n2, e2, _, w2⟩ := DataW.trod_int u2 h2
  simp at e0 e1 e2
  subst e0; subst e1; subst e2
  exact ⟨n0, n1, n2, rfl, w0, w1, w2⟩
theorem open_ints4 {T F0 F1 F2 F3 : TypeId} {f0 f1 f2 f3 : Field} {v : Value} {d : DataW H} {p : List MemPlace} (hs : P.underlying T = some (.struct #[f0, f1, f2, f3])) (hone : oneCellFields P #[f0, f1, f2, f3] = true) (hC : P.cellsOf T = 4)
    (t0 : f0.type = F0) (t1 : f1.type = F1) (t2 : f2.type = F2) (t3 : f3.type = F3) (u0 : P.underlying F0 = some (.int .i64)) (u1 : P.underlying F1 = some (.int .i64)) (u2 : P.underlying F2 = some (.int .i64)) (u3 : P.underlying F3 = some (.int .i64))
    (hv : Value.okWide P W .any base T v) (h : DataW.Trod enc P W 0 (fun _ => true) true T v d p) :
    ∃ a b c e : Int, v = .agg #[.int .i64 a, .int .i64 b, .int .i64 c, .int .i64 e] ∧ (Lit.int .i64 a).wf = true ∧ (Lit.int .i64 b).wf = true ∧ (Lit.int .i64 c).wf = true ∧ (Lit.int .i64 e).wf = true := by
  subst t0; subst t1; subst t2; subst t3
  obtain ⟨v0, v1, v2, v3, y0, y1, y2, y3, n, rfl, _, _, h0, h1, h2, h3⟩ := open_agg4 hs hone hC hv h
  obtain ⟨n0, e0, _, w0⟩ := DataW.trod_int u0 h0
  obtain ⟨n1, e1, _, w1⟩ := DataW.trod_int u1 h1
  obtain ⟨n2, e2, _, w2⟩ := DataW.trod_int u2 h2
  obtain ⟨n3, e3, _, w3⟩ := DataW.trod_int u3 h3
  simp at e0 e1 e2 e3
  subst e0; subst e1; subst e2; subst e3
  exact ⟨n0, n1, n2, n3, rfl, w0, w1, w2, w3⟩
end
end Go.Proofs.YtlnghfmcofmkjaaGreatDoor
