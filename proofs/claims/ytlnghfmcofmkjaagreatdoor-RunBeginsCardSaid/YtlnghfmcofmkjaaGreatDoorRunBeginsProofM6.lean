/- slices.Clone, slices.DeleteFunc at []api.Spent; spent.left: by contracts. Plain arithmetic: tags, bits. No program in sight. conn: Right by contract. -/
import Derived.Test.YtlnghfmcofmkjaaGreatDoorRunBeginsProofM5
import Derived.Lib.SliceRun
import Derived.Lib.Walk
import Derived.Test.YtlnghfmcofmkjaaGreatDoorRunBeginsProofM3
import Derived.Test.YtlnghfmcofmkjaaGreatDoorObj
import Derived.Handy
import Derived.Deep.QuietTactic
import Derived.BigQuiet
namespace Go.Proofs.YtlnghfmcofmkjaaGreatDoor
open Go.RowKit

theorem Tryz.infoSp : (Tryz.prog.info? 173).map (fun i => (i.zero, i.size, i.bytes)) = some (some (.agg #[.int .i64 0, .int .i64 0]), 2, 16) := by kernel_rfl
theorem Tryz.zeroSp (w : World) : (zeroValue 173).run Tryz.prog w = .ok (.agg #[.int .i64 0, .int .i64 0]) w := by kernel_rfl

set_option maxHeartbeats 2000000 in
theorem spClone_some (ad : Addr) (c : Nat) (zs : List (Int × Int)) (w : World) (hl : zs.length ≤ 1000) (hc : ∀ j u, (flat zs)[j]? = some u → w.cell? (ad.add j) = some u) :
    Calls Tryz.prog 112 #[.slice (some ad) zs.length c] w fun e w' => ∃ v', e = .returned v' ∧ w'.ownsRow w.heap.size 173 2 v' zs.length (flat zs) ∧ Below w.heap.size w w' := by
  have q22 : ∀ (w : World) (a : Option Addr) (n c n' c' : Nat), (binOp .eql 58 (.slice a n c) (.slice none n' c')).run Tryz.prog w = .ok (.bool a.isNone) w := fun w a n c n' c' => Lib.run_eql_slice_nil w _ _ a n c n' c' Tryz.underlying58
  obtain ⟨i0, hi, hz0, hz1, hz2⟩ := info_parts Tryz.infoSp
  have A := hide hc
  have HL := hide (flat_length zs)
  have H1 := hide (flat_oneCell zs)
  obtain ⟨n, hn⟩ : ∃ n, n = zs.length := ⟨_, rfl⟩
  rw [← hn] at HL hl ⊢
  clear hc hn
  go_enter Tryz.func112, Tryz.ntmps112
  go_wp2_with (at_builtin; refine wpList_append_own _ rfl _ _ 58 rfl w.heap.size 173 i0 _ 2 16 Tryz.underlying58 hi hz0 hz1 hz2 rfl (by decide) _ _ _ rfl (World.ownsRow_made w #[] 0 (Nat.le_refl _) (Nat.zero_le _) (by simp)) ad n c (flat zs) rfl ?qc1 ?qc2 ?qc3 ?qc4 ?qc5 ?qc6 ?_)
  case qc1 => exact HL.out
  case qc2 =>
    intro j u hj
    exact Lib.cell?_alloc_some _ (A.out j u hj)
  case qc3 => exact H1.out
  case qc4 => unfold maxLen; omega
  case qc5 => omega
  case qc6 => simp
  intro v' w1 hown hgrow hnil
  go_wp2
  go_ret
  refine ⟨v', rfl, by simpa using hown, ?_⟩
  exact ((Below.refl _ w).alloc (Nat.le_refl _) _).grown hgrow (by simp) (by intro k hk; simp [Value.ownBlock] at hk; omega)
theorem spClone_none (n c : Nat) (w : World) :
    Calls Tryz.prog 112 #[.slice none n c] w fun e w' => e = .returned (.slice none 0 0) ∧ w = w' := by
  have q22 : ∀ (w : World) (a : Option Addr) (n c n' c' : Nat), (binOp .eql 58 (.slice a n c) (.slice none n' c')).run Tryz.prog w = .ok (.bool a.isNone) w := fun w a n c n' c' => Lib.run_eql_slice_nil w _ _ a n c n' c' Tryz.underlying58
  go_enter Tryz.func112, Tryz.ntmps112
  go_wp2
  go_ret
  exact ⟨rfl, rfl⟩
theorem spClone (v : Value) (zs : List (Int × Int)) (w : World) (hv : PSl w v zs) :
    Calls Tryz.prog 112 #[v] w fun e w' => ∃ v', e = .returned v' ∧ w'.ownsRow w.heap.size 173 2 v' zs.length (flat zs) ∧ Below w.heap.size w w' := by
  obtain ⟨hl, ⟨rfl, a, c, rfl⟩ | ⟨b, off, c, rfl, hc, hb, hpc⟩⟩ := hv
  · cases a with
    | none => exact (spClone_none 0 c w).mono fun e w' ⟨he, hw⟩ => ⟨_, he, by rw [← hw]; exact World.ownsRow_nil _ _ _ _, by rw [← hw]; exact Below.refl _ _⟩
    | some ad => exact spClone_some ad c [] w (by simp) (fun j u hj => by simp [flat] at hj)
  · refine spClone_some ⟨b, off, none⟩ c zs w hl (fun j u hj => ?_)
    have hj2 : j < zs.length * 2 := by
      rcases Nat.lt_or_ge j (zs.length * 2) with h | h
      · exact h
      · rw [List.getElem?_eq_none (by rw [flat_length]; exact h)] at hj; cases hj
    have hf := flat_get zs (j / 2) (by omega)
    have hp := hpc (j / 2) (by omega)
    rw [Addr.add_lit]
    rcases Nat.mod_two_eq_zero_or_one j with h | h
    · have e : j = j / 2 * 2 := by omega
      rw [e] at hj ⊢
      rw [← hj, hf.1]; exact hp.1
    · have e : j = j / 2 * 2 + 1 := by omega
      rw [e] at hj ⊢
      rw [← hj, hf.2, ← Nat.add_assoc]; exact hp.2
/-- what is asked of a predicate while the row turns -/
def PredO (B : Nat) (g : Nat) (lb : Array Value) (p : Int × Int → Bool) (w : World) : Prop :=
  ∀ (W : World) (x : Int × Int), Below B w W → Calls Tryz.prog g (#[.agg #[.int .i64 x.1, .int .i64 x.2]] ++ lb) W fun e w' => e = .returned (.bool (p x)) ∧ Below W.heap.size W w'
theorem run_clear_pairs (w : World) (t e ty : TypeId) (ht : Tryz.prog.underlying t = some (.slice e)) (hv : ∀ w, (zeroValue e).run Tryz.prog w = .ok (.agg #[.int .i64 0, .int .i64 0]) w) (b o n c : Nat) (hn : 0 < n)
    (hc : ∀ j, j < n * 2 → (w.cell? ⟨b, o + j, none⟩).isSome = true) (hf : ∀ j, j < n * 2 → w.frozen? ⟨b, o + j, none⟩ = false) :
    (Builtin.clear_ #[t] ty #[.slice (some ⟨b, o, none⟩) n c]).run Tryz.prog w = .ok (.tuple #[]) (w.setCells b o (List.replicate (n * 2) (.int .i64 0))) := by
  have hzc : (Builtin.zeroCells (Value.cells (.agg #[.int .i64 0, .int .i64 0])) n).toList = List.replicate (n * 2) (Value.int .i64 0) := by
    simp [Builtin.zeroCells, Value.cells]
    apply List.ext_getElem
    · simp
    · intro i h1 h2
      have : i % 2 = 0 ∨ i % 2 = 1 := by omega
      rcases this with h | h <;> simp [h]
  have hst := run_storeCells_cells (P := Tryz.prog) b o (List.replicate (n * 2) (Value.int .i64 0)) 0 w (by simpa using hc) (by simpa using hf) (by intro v hv'; rw [List.eq_of_mem_replicate hv']; rfl)
  simp only [Nat.add_zero] at hst
  obtain ⟨m, rfl⟩ : ∃ m, n = m + 1 := ⟨n - 1, by omega⟩
  simp [Builtin.clear_, run_underlying ht, hv, hzc, hst]
end Go.Proofs.YtlnghfmcofmkjaaGreatDoor

namespace Go.Proofs.YtlnghfmcofmkjaaGreatDoor
def tstep (o n : Int) : Int := (4099 * o + n + 1) % 999983
def tfold (o : Int) (l : List Int) : Int := l.foldl tstep o
def tagOf (key : Int) (l : List Int) : Int := (4099 * tfold key l + key) % 999983

theorem tstep_in (o n : Int) : 0 ≤ tstep o n ∧ tstep o n < 999983 := by unfold tstep; omega
theorem tfold_in (o : Int) (l : List Int) (h : 0 ≤ o ∧ o < 999983) : 0 ≤ tfold o l ∧ tfold o l < 999983 := by
  induction l generalizing o with
  | nil => exact h
  | cons n l ih => exact ih _ (tstep_in o n)
theorem tagOf_in (key : Int) (l : List Int) : 0 ≤ tagOf key l ∧ tagOf key l < 999983 := by unfold tagOf; omega
theorem tfold_snoc (o : Int) (l : List Int) (n : Int) : tfold o (l ++ [n]) = tstep (tfold o l) n := by simp [tfold]
theorem tstep_inj_left (a b n : Int) (ha : 0 ≤ a ∧ a < 999983) (hb : 0 ≤ b ∧ b < 999983) (h : tstep a n = tstep b n) : a = b := by
  unfold tstep at h; omega
theorem tstep_inj_right (o a b : Int) (ha : 0 ≤ a ∧ a < 999983) (hb : 0 ≤ b ∧ b < 999983) (h : tstep o a = tstep o b) : a = b := by
  unfold tstep at h; omega
theorem tfold_inj (l : List Int) : ∀ (a b : Int) (_ : 0 ≤ a ∧ a < 999983) (_ : 0 ≤ b ∧ b < 999983) (_ : tfold a l = tfold b l), a = b := by
  induction l with
  | nil => intro a b _ _ h; exact h
  | cons n l ih => intro a b ha hb h; exact tstep_inj_left a b n ha hb (ih _ _ (tstep_in _ _) (tstep_in _ _) h)
theorem tagOf_fold_inj (key a b : Int) (ha : 0 ≤ a ∧ a < 999983) (hb : 0 ≤ b ∧ b < 999983) (h : (4099 * a + key) % 999983 = (4099 * b + key) % 999983) : a = b := by omega
theorem tagOf_key (a b : Int) (ha : 0 ≤ a ∧ a < 999983) (hb : 0 ≤ b ∧ b < 999983) (h : (4099 * a + a) % 999983 = (4099 * b + b) % 999983) : a = b := by omega
theorem tfold_append (o : Int) (l m : List Int) : tfold o (l ++ m) = tfold (tfold o l) m := by simp [tfold]
/-- same but for one -/
theorem tagOf_set (key : Int) (l : List Int) (i : Nat) (n : Int) (hi : i < l.length) (hk : 0 ≤ key ∧ key < 999983) (hl : ∀ x ∈ l, 0 ≤ x ∧ x < 999983) (hn : 0 ≤ n ∧ n < 999983) :
    (tagOf key l = tagOf key (l.set i n)) ↔ (n = l[i]) := by
  have e1 : l = l.take i ++ (l[i] :: l.drop (i + 1)) := by simp
  have e2 : l.set i n = l.take i ++ (n :: l.drop (i + 1)) := by rw [List.set_eq_take_append_cons_drop]; simp [hi]
  have hli := hl l[i] (List.getElem_mem hi)
  constructor
  · intro h
    unfold tagOf at h
    have h1 := tagOf_fold_inj key _ _ (tfold_in _ _ hk) (tfold_in _ _ hk) h
    rw [e2] at h1
    have h1' : tfold key (l.take i ++ (l[i] :: l.drop (i + 1))) = tfold key (l.take i ++ (n :: l.drop (i + 1))) := by rw [← e1]; exact h1
    rw [tfold_append, tfold_append] at h1'
    have h2 := tfold_inj (l.drop (i + 1)) (tstep (tfold key (l.take i)) l[i]) (tstep (tfold key (l.take i)) n) (tstep_in _ _) (tstep_in _ _) h1'
    exact (tstep_inj_right _ _ _ hli hn h2).symm
  · intro h
    rw [h]
    simp
def xn (n : Nat) : Nat := n ^^^ 21845
theorem xn_lt (n : Nat) (h : n < 65536) : xn n < 65536 := by
  unfold xn; exact Nat.xor_lt_two_pow (n := 16) h (by decide)
theorem xn_xn (n : Nat) : xn (xn n) = n := by unfold xn; rw [Nat.xor_assoc, Nat.xor_self, Nat.xor_zero]
theorem xn_inj (a b : Nat) (h : xn a = xn b) : a = b := by rw [← xn_xn a, h, xn_xn]
/-- the number whose first n bits are f -/
def sumBits (f : Nat → Bool) : Nat → Nat
  | 0 => 0
  | n + 1 => sumBits f n + if f n then 2 ^ n else 0
theorem sumBits_lt (f : Nat → Bool) (n : Nat) : sumBits f n < 2 ^ n := by
  induction n with
  | zero => simp [sumBits]
  | succ n ih => simp only [sumBits]; split <;> omega
theorem testBit_sumBits (f : Nat → Bool) (n i : Nat) : (sumBits f n).testBit i = (decide (i < n) && f i) := by
  induction n with
  | zero => simp [sumBits]
  | succ n ih =>
    simp only [sumBits]
    have hlt := sumBits_lt f n
    by_cases hf : f n = true
    · rw [if_pos hf, Nat.add_comm]
      rcases Nat.lt_trichotomy i n with h | h | h
      · rw [Nat.testBit_two_pow_add_gt h, ih]; simp [h, Nat.lt_succ_of_lt h]
      · subst h; rw [Nat.testBit_two_pow_add_eq, ih]; simp [hf]
      · rw [show (decide (i < n + 1)) = false by simp; omega]
        simp only [Bool.false_and]
        apply Nat.testBit_lt_two_pow
        have : 2 ^ (n + 1) ≤ 2 ^ i := Nat.pow_le_pow_right (by decide) (by omega)
        omega
    · rw [if_neg hf, Nat.add_zero, ih]
      simp only [Bool.not_eq_true] at hf
      rcases Nat.lt_trichotomy i n with h | h | h
      · simp [h, Nat.lt_succ_of_lt h]
      · subst h; simp [hf]
      · rw [show (decide (i < n + 1)) = false by simp; omega, show (decide (i < n)) = false by simp; omega]
/-- k times halved -/
def halves : Nat → Nat → Nat
  | n, 0 => n
  | n, k + 1 => halves (n / 2) k
theorem halves_eq (n k : Nat) : halves n k = n / 2 ^ k := by
  induction k generalizing n with
  | zero => simp [halves]
  | succ k ih => simp only [halves, ih]; rw [Nat.div_div_eq_div_mul, Nat.pow_succ, Nat.mul_comm]
theorem bit_eq (n k : Nat) : (n / 2 ^ k % 2 == 1) = n.testBit k := by
  rw [Nat.testBit_eq_decide_div_mod_eq]; rfl
theorem turned (n : Nat) (h : n < 65536) : sumBits (fun k => n.testBit k != (k % 2 == 0)) 16 = n ^^^ 21845 := by
  apply Nat.eq_of_testBit_eq
  intro i
  rw [testBit_sumBits, Nat.testBit_xor]
  by_cases hi : i < 16
  · simp only [hi, decide_true, Bool.true_and]
    congr 1
    have : ∀ i < 16, (i % 2 == 0) = Nat.testBit 21845 i := by decide
    exact this i hi
  · have h1 : n.testBit i = false := Nat.testBit_lt_two_pow (Nat.lt_of_lt_of_le h (Nat.pow_le_pow_right (by decide : 2 > 0) (show 16 ≤ i by omega)))
    have h2 : Nat.testBit 21845 i = false := Nat.testBit_lt_two_pow (Nat.lt_of_lt_of_le (by decide : 21845 < 2 ^ 16) (Nat.pow_le_pow_right (by decide : 2 > 0) (show 16 ≤ i by omega)))
    simp [hi, h1, h2]
/-- a number comes that is greater -/
theorem win_up (B k : Nat) : sumBits (fun j => (decide (k ≤ j) && B.testBit (j - k)) || j == 0) 32 = 1 ||| ((B <<< k) &&& 4294967295) := by
  apply Nat.eq_of_testBit_eq
  intro i
  have e : (4294967295 : Nat) = 2 ^ 32 - 1 := by decide
  rw [testBit_sumBits, Nat.testBit_or, Nat.testBit_and, Nat.testBit_shiftLeft, e, Nat.testBit_two_pow_sub_one]
  have h1 : Nat.testBit 1 i = (i == 0) := by
    cases i with
    | zero => rfl
    | succ i => rw [show (1 : Nat) = 2 ^ 0 from rfl, Nat.testBit_two_pow]; simp
  rw [h1]
  by_cases hi : i < 32
  · simp only [hi, decide_true, Bool.true_and, Bool.and_true, ge_iff_le]
    rw [Bool.or_comm]
  · have : (i == 0) = false := by simp; omega
    simp [hi, this]
theorem win_far : sumBits (fun j => j == 0) 32 = 1 := by decide
theorem win_back (B k : Nat) (hB : B < 4294967296) (hk : k < 32) : sumBits (fun j => B.testBit j || j == k) 32 = B ||| (1 <<< k) := by
  apply Nat.eq_of_testBit_eq
  intro i
  rw [testBit_sumBits, Nat.testBit_or, Nat.one_shiftLeft, Nat.testBit_two_pow]
  by_cases hi : i < 32
  · simp only [hi, decide_true, Bool.true_and]
    by_cases h : i = k
    · subst h; simp
    · have h2 : ¬ k = i := fun e => h e.symm
      simp [h, h2]
  · have h1 : B.testBit i = false := Nat.testBit_lt_two_pow (Nat.lt_of_lt_of_le (show B < 2 ^ 32 by simpa using hB) (Nat.pow_le_pow_right (by decide : 2 > 0) (show 32 ≤ i by omega)))
    have h2 : ¬ k = i := by omega
    simp [hi, h1, h2]
end Go.Proofs.YtlnghfmcofmkjaaGreatDoor

namespace Go.Proofs.YtlnghfmcofmkjaaGreatDoor
open Go.RowKit

/-- is a conn right? -/
def connB (s n : Int) : Bool := decide (0 ≤ s ∧ s < 16 ∧ 0 ≤ n ∧ n < 4096)
theorem connRight (s n : Int) (w : World) : Calls Tryz.prog 147 #[.agg #[.int .i64 s, .int .i64 n]] w fun e w' => e = .returned (.bool (connB s n)) ∧ Below w.heap.size w w' := by
  have hc : s < 0 ∨ (0 ≤ s ∧ 16 ≤ s) ∨ (0 ≤ s ∧ s < 16 ∧ n < 0) ∨ (0 ≤ s ∧ s < 16 ∧ 0 ≤ n ∧ 4096 ≤ n) ∨ (0 ≤ s ∧ s < 16 ∧ 0 ≤ n ∧ n < 4096) := by omega
  rcases hc with h | ⟨h1, h2⟩ | ⟨h1, h2, h3⟩ | ⟨h1, h2, h3, h4⟩ | ⟨h1, h2, h3, h4⟩
  all_goals
    go_enter Tryz.func147, Tryz.ntmps147
    go_wp2
    go_ret
    exact ⟨retB (by first | exact (decide_eq_true (by omega)).symm | exact (decide_eq_false (by omega)).symm | (simp only [connB, decide_eq_decide]; omega)), by go_grown⟩

theorem connRight_eq {s n : Int} {v : Bool} (h : connB s n = v) (w : World) : Calls Tryz.prog 147 #[.agg #[.int .i64 s, .int .i64 n]] w fun e w' => e = .returned (.bool v) ∧ Below w.heap.size w w' := by
  have g := connRight s n w
  rwa [h] at g

end Go.Proofs.YtlnghfmcofmkjaaGreatDoor
