/- Lines of bytes, plainly; what strings.IndexByte says of them. Lists of bytes for a session, plainly: a cut, a numeral, a row of numerals; what the library's numerals come to. strconv.Itoa by the shelf's contract. An error as its number: 0 is nil. How the walk asks it for nil. run: number by contract. -/
import Derived.Lib.Bytealg
import Derived.WalkKit
import Derived.Lib.Split
import Derived.Lib.AtoiAll
import Derived.Lib.ItoaNum
import Derived.Lib.Join
import Derived.Shelf.LaysM
import Derived.Shelf.Strconv.Itoa3
import Derived.Test.YtlnghfmcofmkjaaGreatDoorProg
import Derived.Test.YtlnghfmcofmkjaaGreatDoorObj
import Derived.Test.YtlnghfmcofmkjaaGreatDoorShRun
import Derived.Handy
namespace Go.Proofs.YtlnghfmcofmkjaaGreatDoor
open Go.RowKit

/-- the lines of bytes, each with its byte 10, but for the last one -/
def linesL : List UInt8 → List (List UInt8)
  | [] => []
  | c :: r => if c = 10 then [10] :: linesL r else match linesL r with
    | [] => [[c]]
    | l :: ls => (c :: l) :: ls
theorem linesL_line (l r : List UInt8) (h : ∀ c ∈ l, c ≠ 10) : linesL (l ++ 10 :: r) = (l ++ [10]) :: linesL r := by
  induction l with
  | nil => simp [linesL]
  | cons c l ih =>
    have h1 := ih (fun x hx => h x (by simp [hx]))
    have h2 : c ≠ 10 := h c (by simp)
    simp only [List.cons_append, linesL, h2, if_false, h1]
theorem linesL_last (l : List UInt8) (h : ∀ c ∈ l, c ≠ 10) (hn : l ≠ []) : linesL l = [l] := by
  induction l with
  | nil => exact absurd rfl hn
  | cons c l ih =>
    have h2 : c ≠ 10 := h c (by simp)
    cases l with
    | nil => simp [linesL, h2]
    | cons d l =>
      have h1 := ih (fun x hx => h x (by simp [hx])) (by simp)
      rw [linesL, if_neg h2, h1]
theorem idxB_none (l : List UInt8) (h : ∀ c ∈ l, c ≠ 10) : Lib.indexByte l 10 = -1 := by
  induction l with
  | nil => rfl
  | cons c l ih =>
    have h2 : (c == 10) = false := beq_eq_false_iff_ne.2 (h c (by simp))
    simp [Lib.indexByte, h2, ih (fun x hx => h x (by simp [hx]))]
theorem idxB_some (l r : List UInt8) (h : ∀ c ∈ l, c ≠ 10) : Lib.indexByte (l ++ 10 :: r) 10 = l.length := by
  induction l with
  | nil => simp [Lib.indexByte]
  | cons c l ih =>
    have h2 : (c == 10) = false := beq_eq_false_iff_ne.2 (h c (by simp))
    have h3 := ih (fun x hx => h x (by simp [hx]))
    simp only [List.cons_append, Lib.indexByte, h2, h3, List.length_cons]
    rw [if_neg (by simp)]
    have e : ((l.length : Int) == -1) = false := beq_eq_false_iff_ne.2 (by omega)
    simp [e]
theorem line_cut (l : List UInt8) : (∀ c ∈ l, c ≠ 10) ∨ ∃ a r, l = a ++ 10 :: r ∧ ∀ c ∈ a, c ≠ 10 := by
  induction l with
  | nil => exact .inl (by simp)
  | cons c l ih =>
    by_cases hc : c = 10
    · exact .inr ⟨[], l, by simp [hc], by simp⟩
    · rcases ih with h | ⟨a, r, e, h⟩
      · exact .inl (by intro x hx; rcases List.mem_cons.1 hx with rfl | h'; exact hc; exact h x h')
      · exact .inr ⟨c :: a, r, by simp [e], by intro x hx; rcases List.mem_cons.1 hx with rfl | h'; exact hc; exact h x h'⟩
/-- what comes first of bytes that are some -/
theorem line_first (t : ByteArray) (hn : 0 < t.size) :
    (Lib.indexByte t.data.toList 10 = -1 ∧ linesL t.data.toList = [t.data.toList]) ∨
    ∃ i : Nat, i < t.size ∧ Lib.indexByte t.data.toList 10 = i ∧ linesL t.data.toList = (t.extract 0 (i + 1)).data.toList :: linesL (t.extract (i + 1) t.size).data.toList := by
  have hne : t.data.toList ≠ [] := by
    intro h
    have h1 : t.data.toList.length = 0 := by rw [h]; rfl
    have h2 : t.data.toList.length = t.size := by simp
    omega
  rcases line_cut t.data.toList with h | ⟨a, r, e, h⟩
  · exact .inl ⟨idxB_none _ h, linesL_last _ h hne⟩
  · refine .inr ⟨a.length, ?_, by rw [e]; exact idxB_some a r h, ?_⟩
    · have : t.data.toList.length = a.length + 1 + r.length := by rw [e]; simp; omega
      have h2 : t.data.toList.length = t.size := by simp
      omega
    · have h1 : (t.extract 0 (a.length + 1)).data.toList = a ++ [10] := by
        simp [e, List.take_append, List.take_of_length_le (Nat.le_succ a.length)]
      have hs : t.size = a.length + 1 + r.length := by
        have : t.data.toList.length = a.length + 1 + r.length := by rw [e]; simp; omega
        simpa using this
      have h2 : (t.extract (a.length + 1) t.size).data.toList = r := by
        simp only [ByteArray.data_extract, Array.toList_extract, List.extract_eq_take_drop, e]
        rw [List.drop_append, List.drop_of_length_le (Nat.le_succ a.length)]
        have e3 : a.length + 1 - a.length = 1 := by omega
        rw [e3, hs]
        have e4 : a.length + 1 + r.length - (a.length + 1) = r.length := by omega
        rw [e4]
        simp
      rw [h1, h2, e]
      exact linesL_line a r h
theorem linesL_nil_iff (l : List UInt8) : linesL l = [] ↔ l = [] := by
  cases l with
  | nil => simp [linesL]
  | cons c l =>
    simp only [linesL]
    split
    · simp
    · split <;> simp
end Go.Proofs.YtlnghfmcofmkjaaGreatDoor

namespace Go.Proofs.YtlnghfmcofmkjaaGreatDoor
open Go.RowKit

def consL (x : UInt8) : List (List UInt8) → List (List UInt8)
  | [] => [[x]]
  | l :: ls => (x :: l) :: ls
/-- a text cut at each byte c -/
def cutL (c : UInt8) : List UInt8 → List (List UInt8)
  | [] => [[]]
  | x :: r => if x = c then [] :: cutL c r else consL x (cutL c r)
theorem cutL_none {c : UInt8} {l : List UInt8} (h : ∀ x ∈ l, x ≠ c) : cutL c l = [l] := by
  induction l with
  | nil => rfl
  | cons x l ih => rw [cutL, if_neg (h x (by simp)), ih (fun y hy => h y (by simp [hy]))]; rfl
theorem cutL_some {c : UInt8} {a r : List UInt8} (h : ∀ x ∈ a, x ≠ c) : cutL c (a ++ c :: r) = a :: cutL c r := by
  induction a with
  | nil => simp [cutL]
  | cons x a ih => rw [List.cons_append, cutL, if_neg (h x (by simp)), ih (fun y hy => h y (by simp [hy]))]; rfl
theorem cutL_ne (c : UInt8) (l : List UInt8) : cutL c l ≠ [] := by
  cases l with
  | nil => simp [cutL]
  | cons x l =>
    rw [cutL]
    split
    · simp
    · cases h : cutL c l <;> simp [consL]
theorem cut_at (c : UInt8) (l : List UInt8) : (∀ x ∈ l, x ≠ c) ∨ ∃ a r, l = a ++ c :: r ∧ ∀ x ∈ a, x ≠ c := by
  induction l with
  | nil => exact .inl (by simp)
  | cons x l ih =>
    by_cases hc : x = c
    · exact .inr ⟨[], l, by simp [hc], by simp⟩
    · rcases ih with h | ⟨a, r, e, h⟩
      · exact .inl (by intro y hy; rcases List.mem_cons.1 hy with rfl | h'; exact hc; exact h y h')
      · exact .inr ⟨x :: a, r, by simp [e], by intro y hy; rcases List.mem_cons.1 hy with rfl | h'; exact hc; exact h y h'⟩
theorem index1_none {c : UInt8} {l : List UInt8} (h : ∀ x ∈ l, x ≠ c) : Lib.index l [c] = -1 := by
  induction l with
  | nil => rfl
  | cons x l ih =>
    have h1 : (c == x) = false := beq_eq_false_iff_ne.2 (fun e => h x (by simp) e.symm)
    simp [Lib.index, List.isPrefixOf, h1, ih (fun y hy => h y (by simp [hy]))]
theorem index1_some {c : UInt8} {a r : List UInt8} (h : ∀ x ∈ a, x ≠ c) : Lib.index (a ++ c :: r) [c] = a.length := by
  induction a with
  | nil => simp [Lib.index, List.isPrefixOf]
  | cons x a ih =>
    have h1 : (c == x) = false := beq_eq_false_iff_ne.2 (fun e => h x (by simp) e.symm)
    have h2 := ih (fun y hy => h y (by simp [hy]))
    have e : ((a.length : Int) == -1) = false := beq_eq_false_iff_ne.2 (by omega)
    simp [Lib.index, List.isPrefixOf, h1, h2, e]
theorem split_cut (c : UInt8) : ∀ (n : Nat) (l : List UInt8), l.length ≤ n → Lib.split l [c] = cutL c l := by
  intro n
  induction n with
  | zero =>
    intro l hl
    have : l = [] := List.length_eq_zero_iff.1 (by omega)
    subst this
    rfl
  | succ n ih =>
    intro l hl
    rcases cut_at c l with h | ⟨a, r, rfl, h⟩
    · rw [cutL_none h]
      unfold Lib.split
      rw [Lib.count_miss (index1_none h)]
      rfl
    · have hi := index1_some (r := r) h
      have hr : (a ++ c :: r).drop (a.length + [c].length) = r := by
        rw [List.drop_append]; simp
      have hc := Lib.count_hit (sub := [c]) (by simp) hi
      rw [hr] at hc
      rw [cutL_some h, ← ih r (by simp at hl; omega)]
      unfold Lib.split
      rw [hc, Nat.add_comm, Lib.splitK, hi]
      have e : ((a.length : Int) == -1) = false := beq_eq_false_iff_ne.2 (by omega)
      rw [e]
      simp
/-- the parts of strings.Split at one byte -/
theorem splitB_cut (s sep : ByteArray) (c : UInt8) (hs : sep.data.toList = [c]) : (Lib.splitB sep 0 (Lib.countB s sep) s).map (·.data.toList) = cutL c s.data.toList := by
  rw [Lib.splitB_data, hs]
  have : Lib.countB s sep = Lib.count s.data.toList [c] := by unfold Lib.countB; rw [hs]
  rw [this]
  exact split_cut c _ _ (Nat.le_refl _)

/-- the numeral of u, of at most k digits -/
def digF : Nat → Nat → List UInt8
  | 0, _ => []
  | k + 1, u => if u < 10 then [UInt8.ofNat (48 + u)] else digF k (u / 10) ++ [UInt8.ofNat (48 + u % 10)]
theorem digF_eq : ∀ (k u : Nat), u < 10 ^ (k + 1) → digF (k + 1) u = Lib.decDigits u := by
  intro k
  induction k with
  | zero => intro u h; rw [Lib.decDigits, dif_pos (by simpa using h), digF, if_pos (by simpa using h)]
  | succ k ih =>
    intro u h
    rw [Lib.decDigits, digF]
    by_cases h1 : u < 10
    · rw [dif_pos h1, if_pos h1]
    · rw [dif_neg h1, if_neg h1, ih (u / 10) (by rw [Nat.pow_succ] at h; omega)]
/-- the numeral of a number -/
def digL (n : Int) : List UInt8 := digF 7 n.toNat
theorem digL_itoa {n : Int} (h0 : 0 ≤ n) (h1 : n < 10000000) : Lib.itoa n = digL n := by
  unfold Lib.itoa digL
  rw [if_neg (by omega), digF_eq 6 _ (by show n.toNat < 10000000; omega)]
/-- what digits come to -/
def valF (acc : Nat) : List UInt8 → Option Nat
  | [] => some acc
  | c :: r => if 48 ≤ c.toNat ∧ c.toNat ≤ 57 then valF (acc * 10 + (c.toNat - 48)) r else none
/-- a number of at most six digits, without a needless 0 -/
def numL (l : List UInt8) : Option Nat := if l = [] ∨ 6 < l.length ∨ (l.head? = some 48 ∧ 1 < l.length) then none else valF 0 l
theorem valF_snoc (l : List UInt8) (c : UInt8) : ∀ acc, valF acc (l ++ [c]) = (valF acc l).bind (fun n => if 48 ≤ c.toNat ∧ c.toNat ≤ 57 then some (n * 10 + (c.toNat - 48)) else none) := by
  induction l with
  | nil => intro acc; simp [valF]
  | cons x l ih =>
    intro acc
    simp only [List.cons_append, valF]
    split
    · exact ih _
    · rfl
theorem valF_ge (l : List UInt8) : ∀ acc u, valF acc l = some u → acc ≤ u ∧ (l ≠ [] → acc * 10 ≤ u) := by
  induction l with
  | nil => intro acc u h; simp [valF] at h; exact ⟨by omega, fun h => absurd rfl h⟩
  | cons c l ih =>
    intro acc u h
    simp only [valF] at h
    split at h
    · have := (ih _ _ h).1
      exact ⟨by omega, fun _ => by omega⟩
    · cases h
theorem valF_lt (l : List UInt8) : ∀ acc u, valF acc l = some u → u < (acc + 1) * 10 ^ l.length := by
  induction l with
  | nil => intro acc u h; simp [valF] at h; simp; omega
  | cons c l ih =>
    intro acc u h
    simp only [valF] at h
    split at h
    · have := ih _ _ h
      rw [List.length_cons, Nat.pow_succ, Nat.mul_comm (10 ^ l.length) 10, ← Nat.mul_assoc]
      refine Nat.lt_of_lt_of_le this (Nat.mul_le_mul_right _ (by omega))
    · cases h
theorem valF_dec (l : List UInt8) (h0 : l ≠ []) : ∀ u, valF 0 l = some u → (l.head? = some 48 → l.length ≤ 1) → l = Lib.decDigits u := by
  induction hn : l.length generalizing l with
  | zero => exact absurd (List.length_eq_zero_iff.1 hn) h0
  | succ n ih =>
    intro u hu hh
    obtain ⟨a, c, rfl⟩ : ∃ a c, l = a ++ [c] := ⟨l.dropLast, l.getLast h0, (List.dropLast_concat_getLast h0).symm⟩
    rw [valF_snoc] at hu
    cases ha : valF 0 a with
    | none => rw [ha] at hu; cases hu
    | some m =>
      rw [ha, Option.bind_some] at hu
      split at hu
      case isFalse => cases hu
      case isTrue hd =>
      have hu2 := Option.some.inj hu
      have hc : UInt8.ofNat (48 + (c.toNat - 48)) = c := by
        have : 48 + (c.toNat - 48) = c.toNat := by omega
        rw [this]; exact UInt8.ofNat_toNat
      by_cases ha0 : a = []
      · subst ha0
        simp [valF] at ha
        rw [Lib.decDigits, dif_pos (by omega)]
        have : u = c.toNat - 48 := by omega
        rw [this, hc]
        rfl
      · have hal : a.length = n := by simp at hn; omega
        obtain ⟨x, b, rfl⟩ : ∃ x b, a = x :: b := by
          cases a with
          | nil => exact absurd rfl ha0
          | cons x b => exact ⟨x, b, rfl⟩
        have hx : x ≠ 48 := fun e => by
          have := hh (by simp [e])
          simp at hal
          omega
        have e1 := ih (x :: b) ha0 hal m ha (fun e => by simp at e; exact absurd e hx)
        have hm : 1 ≤ m := by
          simp only [valF] at ha
          split at ha
          case isTrue hxd =>
            have := (valF_ge b _ _ ha).1
            have hx2 : x.toNat ≠ 48 := fun e => hx (UInt8.toNat_inj.1 e)
            omega
          case isFalse => cases ha
        rw [e1]
        conv => rhs; rw [Lib.decDigits]
        rw [dif_neg (by omega)]
        have e2 : u / 10 = m := by omega
        have e3 : u % 10 = c.toNat - 48 := by omega
        rw [e2, e3, hc]
theorem decDigits_digit (u : Nat) : ∀ c ∈ Lib.decDigits u, 48 ≤ c.toNat ∧ c.toNat ≤ 57 := by
  induction u using Nat.strongRecOn with
  | _ u ih =>
    intro c hc
    rw [Lib.decDigits] at hc
    have dg : ∀ d, d < 10 → 48 ≤ (UInt8.ofNat (48 + d)).toNat ∧ (UInt8.ofNat (48 + d)).toNat ≤ 57 := by
      intro d hd
      rw [UInt8.toNat_ofNat']
      have : (48 + d) % 2 ^ 8 = 48 + d := Nat.mod_eq_of_lt (by omega)
      omega
    split at hc
    · rw [List.mem_singleton] at hc; subst hc; exact dg _ (by omega)
    · rcases List.mem_append.1 hc with h | h
      · exact ih _ (by omega) c h
      · rw [List.mem_singleton] at h; subst h; exact dg _ (by omega)
theorem decDigits_val (u : Nat) : valF 0 (Lib.decDigits u) = some u := by
  have tn : ∀ d, d < 10 → (UInt8.ofNat (48 + d)).toNat = 48 + d := by
    intro d hd
    rw [UInt8.toNat_ofNat']
    exact Nat.mod_eq_of_lt (by omega)
  induction u using Nat.strongRecOn with
  | _ u ih =>
    rw [Lib.decDigits]
    split
    · rename_i h
      rw [valF, tn u h, if_pos (by omega), valF]
      congr 1; omega
    · rename_i h
      rw [valF_snoc, ih _ (by omega), Option.bind_some, tn _ (by omega), if_pos (by omega)]
      congr 1; omega
theorem decDigits_ne (u : Nat) : Lib.decDigits u ≠ [] := by
  rw [Lib.decDigits]
  split <;> simp
theorem decDigits_head (u : Nat) : (Lib.decDigits u).head? = some 48 → (Lib.decDigits u).length ≤ 1 := by
  induction u using Nat.strongRecOn with
  | _ u ih =>
    rw [Lib.decDigits]
    split
    · simp
    · rename_i h
      intro hh
      exfalso
      have hne := decDigits_ne (u / 10)
      have hh : (Lib.decDigits (u / 10)).head? = some 48 := by
        cases hd : Lib.decDigits (u / 10) with
        | nil => exact absurd hd hne
        | cons x b => rw [hd] at hh; simpa using hh
      have h1 := ih (u / 10) (by omega) hh
      obtain ⟨x, hx⟩ : ∃ x, Lib.decDigits (u / 10) = [x] := by
        cases hd : Lib.decDigits (u / 10) with
        | nil => exact absurd hd hne
        | cons x b => rw [hd] at h1; simp at h1; exact ⟨x, by rw [h1]⟩
      have h2 := decDigits_val (u / 10)
      rw [hx] at h2 hh
      simp at hh
      subst hh
      simp [valF] at h2
      omega
theorem numL_dec {l : List UInt8} {u : Nat} (h : numL l = some u) : l = Lib.decDigits u ∧ l.length ≤ 6 ∧ u < 1000000 ∧ valF 0 l = some u := by
  unfold numL at h
  split at h
  · cases h
  · rename_i hc
    have h1 : l ≠ [] := fun e => hc (.inl e)
    have h2 : l.length ≤ 6 := by
      rcases Nat.lt_or_ge 6 l.length with h3 | h3
      · exact absurd (.inr (.inl h3)) hc
      · exact h3
    have h3 : l.head? = some 48 → l.length ≤ 1 := fun e => by
      rcases Nat.lt_or_ge 1 l.length with h4 | h4
      · exact absurd (.inr (.inr ⟨e, h4⟩)) hc
      · exact h4
    have h4 := valF_lt l 0 u h
    have h5 : 10 ^ l.length ≤ 10 ^ 6 := Nat.pow_le_pow_right (by omega) h2
    exact ⟨valF_dec l h1 u h h3, h2, by omega, h⟩
theorem numL_of {u : Nat} (h : (Lib.decDigits u).length ≤ 6) : numL (Lib.decDigits u) = some u := by
  unfold numL
  rw [if_neg, decDigits_val]
  rintro (h1 | h1 | ⟨h1, h2⟩)
  · exact decDigits_ne u h1
  · omega
  · have := decDigits_head u h1; omega
theorem parse_val (l : List UInt8) : ∀ acc u, valF acc l = some u → u < 1000000000 → Lib.parseUint10 acc l = .ok u := by
  induction l with
  | nil => intro acc u h _; simp [valF] at h; simp [Lib.parseUint10, h]
  | cons c l ih =>
    intro acc u h hu
    simp only [valF] at h
    split at h
    · rename_i hd
      have := (valF_ge l _ _ h).1
      rw [Lib.parseUint10, if_pos hd, if_neg (by omega), if_neg (by omega)]
      exact ih _ _ h hu
    · cases h
/-- what strconv.Atoi makes of such a number -/
theorem numL_atoi {l : List UInt8} {u : Nat} (h : numL l = some u) : Lib.atoiAll l = .ok (u : Int) ∧ Lib.itoa u = l ∧ l.length ≤ 6 ∧ u < 1000000 := by
  obtain ⟨h1, h2, h3, h4⟩ := numL_dec h
  refine ⟨?_, ?_, h2, h3⟩
  · cases l with
    | nil => exact absurd h1.symm (decDigits_ne u)
    | cons c r =>
      have hd := decDigits_digit u c (by rw [← h1]; simp)
      unfold Lib.atoiAll
      simp only
      rw [if_neg (by omega)]
      unfold Lib.parseMag
      rw [if_neg (by simp), parse_val _ _ _ h4 (by omega)]
      simp only
      rw [if_neg (by omega), if_neg (by omega), if_neg (by omega)]
  · unfold Lib.itoa
    rw [if_neg (by omega), h1]
    simp
/-- a number that strconv.Itoa spells as it was -/
theorem numL_back {l : List UInt8} {v : Int} (h0 : 0 ≤ v) (hl : l.length ≤ 6) (h : Lib.itoa v = l) : numL l = some v.toNat := by
  unfold Lib.itoa at h
  rw [if_neg (by omega)] at h
  subst h
  exact numL_of hl
/-- numbers of words -/
def numsL : List (List UInt8) → Option (List Nat)
  | [] => some []
  | w :: ws => match numL w with
    | none => none
    | some n => match numsL ws with
      | none => none
      | some l => some (n :: l)
theorem numsL_len : ∀ (ws : List (List UInt8)) (l : List Nat), numsL ws = some l → l.length = ws.length := by
  intro ws
  induction ws with
  | nil => intro l h; simp [numsL] at h; simp [h]
  | cons w ws ih =>
    intro l h
    simp only [numsL] at h
    split at h
    · cases h
    · split at h
      · cases h
      · rename_i l' hl'
        have := Option.some.inj h
        subst this
        simp [ih _ hl']
/-- a row of numerals -/
def rowL : List Int → List UInt8
  | [] => []
  | [n] => digL n
  | n :: m :: r => digL n ++ 32 :: rowL (m :: r)
/-- the name of a fault -/
def nameL (e : Int) : List UInt8 :=
  if e = 0 then [79, 75] else if e = 1 then [69, 114, 114, 82, 97, 110, 103, 101] else if e = 2 then [69, 114, 114, 83, 121, 110, 116, 97, 120] else if e = 3 then [69, 114, 114, 83, 104, 97, 112, 101]
  else if e = 4 then [69, 114, 114, 70, 117, 108, 108] else if e = 5 then [69, 114, 114, 78, 111, 110, 101] else if e = 6 then [69, 114, 114, 83, 116, 97, 116, 101] else if e = 7 then [69, 114, 114, 67, 108, 97, 115, 104]
  else if e = 8 then [69, 114, 114, 83, 101, 97, 108] else [69, 114, 114, 76, 97, 116, 101]
end Go.Proofs.YtlnghfmcofmkjaaGreatDoor

namespace Go.Proofs.YtlnghfmcofmkjaaGreatDoor
open Go.Shelf

def Tryz.laysM171_ren : Go.Shelf.Ren := ⟨fun | 171 => 86 | 243 => 104 | 246 => 124 | 283 => 139 | 284 => 140 | 285 => 141 | 286 => 142 | 129 => 154 | 317 => 153 | 318 => 155 | 319 => 156 | 320 => 157 | 337 => 162 | 338 => 163 | n => n, fun | 3 => 3 | 9 => 9 | 2 => 2 | 4 => 4 | 171 => 227 | 0 => 0 | 53 => 221 | 37 => 39 | 5 => 5 | 173 => 230 | 212 => 245 | 51 => 218 | 20 => 20 | 213 => 246 | 46 => 200 | 232 => 254 | 233 => 255 | n => n, fun | 17 => 8 | 18 => 9 | 19 => 10 | n => n⟩
theorem Tryz.laysM171 : Go.Proofs.LaysM.n171 Tryz.prog Tryz.laysM171_ren := {
  mixed := by kernel_rfl
  f129 := Tryz.func154.trans (congrArg some (by kernel_rfl))
  f171 := Tryz.func86.trans (congrArg some (by kernel_rfl))
  f243 := Tryz.func104.trans (congrArg some (by kernel_rfl))
  f246 := Tryz.func124.trans (congrArg some (by kernel_rfl))
  f283 := Tryz.func139.trans (congrArg some (by kernel_rfl))
  f284 := Tryz.func140.trans (congrArg some (by kernel_rfl))
  f285 := Tryz.func141.trans (congrArg some (by kernel_rfl))
  f286 := Tryz.func142.trans (congrArg some (by kernel_rfl))
  f317 := Tryz.func153.trans (congrArg some (by kernel_rfl))
  f318 := Tryz.func155.trans (congrArg some (by kernel_rfl))
  f319 := Tryz.func156.trans (congrArg some (by kernel_rfl))
  f320 := Tryz.func157.trans (congrArg some (by kernel_rfl))
  f337 := Tryz.func162.trans (congrArg some (by kernel_rfl))
  f338 := Tryz.func163.trans (congrArg some (by kernel_rfl))
  t0 := Tryz.underlying0
  a0 := Tryz.isAgg0
  z0 := Tryz.sizeOf0
  v0 := Tryz.zeroValue0
  t2 := Tryz.underlying2
  a2 := Tryz.isAgg2
  z2 := Tryz.sizeOf2
  v2 := Tryz.zeroValue2
  t3 := Tryz.underlying3
  a3 := Tryz.isAgg3
  z3 := Tryz.sizeOf3
  v3 := Tryz.zeroValue3
  t4 := Tryz.underlying4
  a4 := Tryz.isAgg4
  z4 := Tryz.sizeOf4
  v4 := Tryz.zeroValue4
  t5 := Tryz.underlying5
  a5 := Tryz.isAgg5
  z5 := Tryz.sizeOf5
  v5 := Tryz.zeroValue5
  t9 := Tryz.underlying9
  a9 := Tryz.isAgg9
  z9 := Tryz.sizeOf9
  v9 := Tryz.zeroValue9
  t20 := Tryz.underlying20
  a20 := Tryz.isAgg20
  z20 := Tryz.sizeOf20
  v20 := Tryz.zeroValue20
  t37 := Tryz.underlying39
  a37 := Tryz.isAgg39
  z37 := Tryz.sizeOf39
  v37 := Tryz.zeroValue39
  t46 := Tryz.underlying200
  a46 := Tryz.isAgg200
  z46 := Tryz.sizeOf200
  v46 := Tryz.zeroValue200
  t51 := Tryz.underlying218
  a51 := Tryz.isAgg218
  z51 := Tryz.sizeOf218
  v51 := Tryz.zeroValue218
  t53 := Tryz.underlying221
  a53 := Tryz.isAgg221
  z53 := Tryz.sizeOf221
  v53 := Tryz.zeroValue221
  t171 := Tryz.underlying227
  a171 := Tryz.isAgg227
  z171 := Tryz.sizeOf227
  v171 := Tryz.zeroValue227
  t173 := Tryz.underlying230
  a173 := Tryz.isAgg230
  z173 := Tryz.sizeOf230
  v173 := Tryz.zeroValue230
  t212 := Tryz.underlying245
  a212 := Tryz.isAgg245
  z212 := Tryz.sizeOf245
  v212 := Tryz.zeroValue245
  t213 := Tryz.underlying246
  a213 := Tryz.isAgg246
  z213 := Tryz.sizeOf246
  t232 := Tryz.underlying254
  a232 := Tryz.isAgg254
  z232 := Tryz.sizeOf254
  v232 := Tryz.zeroValue254
  t233 := Tryz.underlying255
  a233 := Tryz.isAgg255
  z233 := Tryz.sizeOf255
  v233 := Tryz.zeroValue255
  g17 := by kernel_rfl
  g18 := by kernel_rfl
  g19 := by kernel_rfl
  i0 := by kernel_rfl
  i2 := by kernel_rfl
  i3 := by kernel_rfl
  i4 := by kernel_rfl
  i5 := by kernel_rfl
  i9 := by kernel_rfl
  i20 := by kernel_rfl
  i37 := by kernel_rfl
  i46 := by kernel_rfl
  i51 := by kernel_rfl
  i53 := by kernel_rfl
  i171 := by kernel_rfl
  i173 := by kernel_rfl
  i212 := by kernel_rfl
  i232 := by kernel_rfl
  i233 := by kernel_rfl
  m17 := by kernel_rfl
  m18 := by kernel_rfl
  m19 := by kernel_rfl }
open Go.RowKit Go.Sort Go.Lib in
theorem Tryz.strconv_Itoa (n : Int) (h0 : -9223372036854775808 ≤ n) (h1 : n ≤ 9223372036854775807) (w : World) (htab : Lib.TabIs Tryz.prog w "internal/strconv.uint64pow10" .u64 Lib.pow10Tab) :
    Calls Tryz.prog 86 #[.int .i64 n] w fun e w' => e = .returned (.string ⟨(Lib.itoa n).toArray⟩) ∧ ∃ k os, w' = grow (w.drewN k) os := Any.strconv_Itoa Tryz.laysM171 n h0 h1 w htab
open Go.RowKit
/-- the numeral of a number -/
def numB (n : Int) : ByteArray := ⟨(Lib.itoa n).toArray⟩
theorem numB_size {n : Int} (h0 : 0 ≤ n) (h1 : n < 1000000) : 1 ≤ (numB n).size ∧ (numB n).size ≤ 6 := by
  obtain ⟨u, rfl⟩ : ∃ u : Nat, n = u := ⟨n.toNat, by omega⟩
  have e : (numB (u : Int)).size = Lib.nDigits u := by
    unfold numB
    rw [Lib.itoa_nonneg]
    show (Lib.decDigits u).toArray.size = _
    rw [List.size_toArray, Lib.decDigits_length]
  rw [e]
  have hu : u < 1000000 := by omega
  by_cases a1 : u < 10
  · rw [Lib.nDigits_small a1]; omega
  · by_cases a2 : u < 100
    · rw [Lib.nDigits_unique 1 u (by omega) (by omega)]; omega
    · by_cases a3 : u < 1000
      · rw [Lib.nDigits_unique 2 u (by omega) (by omega)]; omega
      · by_cases a4 : u < 10000
        · rw [Lib.nDigits_unique 3 u (by omega) (by omega)]; omega
        · by_cases a5 : u < 100000
          · rw [Lib.nDigits_unique 4 u (by omega) (by omega)]; omega
          · rw [Lib.nDigits_unique 5 u (by omega) (by omega)]; omega
theorem below_grow {B : Nat} {a w : World} (os : Array Obj) (h : Below B a w) (hB : B ≤ w.heap.size) : Below B a (Go.Sort.grow w os) :=
  h.trans ⟨rfl, rfl, rfl, by simp [Go.Sort.grow], fun j hj => by
    show (w.heap ++ os)[j]? = w.heap[j]?
    rw [Array.getElem?_append_left (by omega)]⟩
theorem itoa_eq {n : Int} (h0 : 0 ≤ n) (h1 : n < 1000000) (w : World) (htab : Lib.TabIs Tryz.prog w "internal/strconv.uint64pow10" .u64 Lib.pow10Tab) :
    Calls Tryz.prog 86 #[.int .i64 n] w fun e w' => e = .returned (.string (numB n)) ∧ Below w.heap.size w w' := by
  refine (Tryz.strconv_Itoa n (by omega) (by omega) w htab).mono ?_
  rintro e w' ⟨rfl, k, os, rfl⟩
  exact ⟨rfl, below_grow os (bel_drewN (Below.refl _ _) k) (Nat.le_refl _)⟩
end Go.Proofs.YtlnghfmcofmkjaaGreatDoor

namespace Go.Proofs.YtlnghfmcofmkjaaGreatDoor
open Go.RowKit

theorem retB {a b : Bool} (h : a = b) : Ending.returned (.bool a) = .returned (.bool b) := by rw [h]
theorem retI {k : IntKind} {a b : Int} (h : a = b) : Ending.returned (.int k a) = .returned (.int k b) := by rw [h]
theorem retIE {k : IntKind} {a b : Int} {x y : Value} (h : a = b) (h2 : x = y) : Ending.returned (.tuple #[.int k a, x]) = .returned (.tuple #[.int k b, y]) := by rw [h, h2]

/-- The error of number c: nil, or the Errno. -/
def errV (c : Int) : Value := if c = 0 then .nilIface else .iface 82 (.int .i64 c)
theorem errV_0 : errV 0 = .nilIface := rfl
theorem errV_ne {c : Int} (h : c ≠ 0) : errV c = .iface 82 (.int .i64 c) := if_neg h
theorem errV_1 : Value.iface 82 (.int .i64 1) = errV 1 := rfl
theorem errV_3 : Value.iface 82 (.int .i64 3) = errV 3 := rfl
theorem errV_4 : Value.iface 82 (.int .i64 4) = errV 4 := rfl
theorem errV_5 : Value.iface 82 (.int .i64 5) = errV 5 := rfl
theorem errV_6 : Value.iface 82 (.int .i64 6) = errV 6 := rfl
theorem errV_7 : Value.iface 82 (.int .i64 7) = errV 7 := rfl
theorem errV_8 : Value.iface 82 (.int .i64 8) = errV 8 := rfl
theorem errV_9 : Value.iface 82 (.int .i64 9) = errV 9 := rfl

theorem Tryz.errIface : Tryz.prog.underlying 33 = some (.interface (Tryz.prog.methodsAt 33)) := by kernel_rfl
theorem run_neq_errV (c : Int) (w : World) : (binOp .neq 33 (errV c) .nilIface).run Tryz.prog w = .ok (.bool (c != 0)) w := by
  by_cases h : c = 0
  · subst h; exact run_neq_nil_nil w 33 Tryz.errIface
  · rw [errV_ne h, run_neq_held_nil w 33 _ _ Tryz.errIface]
    congr 1; congr 1; exact (bne_iff_ne.2 h).symm
theorem run_eql_errV (c : Int) (w : World) : (binOp .eql 33 (errV c) .nilIface).run Tryz.prog w = .ok (.bool (c == 0)) w := by
  by_cases h : c = 0
  · subst h; exact run_eql_nil_nil w 33 Tryz.errIface
  · rw [errV_ne h, run_eql_held_nil w 33 _ _ Tryz.errIface]
    congr 1; congr 1; exact (beq_eq_false_iff_ne.2 h).symm
theorem run_guard_errV (op : BinOp) (c : Int) (w : World) (x : Operand) : (eqGuard op 33 x (.const .nilIface) (errV c) .nilIface).run Tryz.prog w = .ok () w := by
  by_cases h : c = 0
  · subst h; rw [errV_0]; cases op <;> simp [go_sem, eqGuard]
  · rw [errV_ne h]; cases op <;> simp [go_sem, eqGuard]
attribute [go_sem] run_neq_errV run_eql_errV run_guard_errV
end Go.Proofs.YtlnghfmcofmkjaaGreatDoor

namespace Go.Proofs.YtlnghfmcofmkjaaGreatDoor
open Go.RowKit

theorem itoa_any {n : Int} (h0 : 0 ≤ n) (h1 : n ≤ 9223372036854775807) (w : World) (htab : Lib.TabIs Tryz.prog w "internal/strconv.uint64pow10" .u64 Lib.pow10Tab) :
    Calls Tryz.prog 86 #[.int .i64 n] w fun e w' => e = .returned (.string (numB n)) ∧ Below w.heap.size w w' := by
  refine (Tryz.strconv_Itoa n (by omega) (by omega) w htab).mono ?_
  rintro e w' ⟨rfl, k, os, rfl⟩
  exact ⟨rfl, below_grow os (bel_drewN (Below.refl _ _) k) (Nat.le_refl _)⟩
theorem ba_of_list {a b : ByteArray} (h : a.data.toList = b.data.toList) : a = b := by
  apply ByteArray.ext
  exact Array.toList_inj.1 h
/-- the table of powers of ten -/
def PowT (w : World) : Prop := Lib.TabIs Tryz.prog w "internal/strconv.uint64pow10" .u64 Lib.pow10Tab
theorem runNumber_ok {s : ByteArray} {u : Nat} (h : numL s.data.toList = some u) (w : World) (htab : ∀ W, Below w.heap.size w W → PowT W) :
    Calls Tryz.prog 62 #[.string s] w fun e w' => e = .returned (.tuple #[.int .i64 (u : Int), .bool true]) ∧ Below w.heap.size w w' := by
  obtain ⟨h1, h2, h3, h4⟩ := numL_atoi h
  have hsz : s.data.toList.length = s.size := by simp
  have hs6 : s.size ≤ 6 := by omega
  have hsE : numB (u : Int) = s := ba_of_list (by unfold numB; simpa using h2)
  have AT := hide (atoi_ok (by omega) h1 w)
  have IT := hide (fun W (hW : Below w.heap.size w W) => itoa_any (n := (u : Int)) (by omega) (by omega) W (htab W hW))
  rw [hsE] at IT
  clear h h1 h2 htab hsE hsz h4
  go_enter Tryz.func62, Tryz.ntmps62
  go_wp2_with fail
  refine AT.out.mono ?_
  rintro e w1 ⟨rfl, hb1⟩
  have HB := hide hb1
  clear hb1
  go_wp2_with fail
  refine (IT.out _ HB.out).mono ?_
  rintro e w2 ⟨rfl, hb2⟩
  have HC := hide (HB.out.trans (hb2.mono HB.out.size))
  clear hb2
  go_wp2
  go_ret2
  exact ⟨rfl, HC.out⟩
theorem runNumber_bad {s : ByteArray} (hs : s.size ≤ 1000000) (h : numL s.data.toList = none) (w : World) (hv : ErrVars w) (htab : ∀ W, Below w.heap.size w W → PowT W) :
    Calls Tryz.prog 62 #[.string s] w fun e w' => (∃ n, e = .returned (.tuple #[.int .i64 n, .bool false])) ∧ Below w.heap.size w w' := by
  have hsz : s.data.toList.length = s.size := by simp
  by_cases hk : noNum s
  · have AT := hide (atoi_bad hs hk w hv)
    clear h hv htab hk hsz
    go_enter Tryz.func62, Tryz.ntmps62
    go_wp2_with fail
    refine AT.out.mono ?_
    rintro e w1 ⟨⟨n, p, rfl⟩, hb1⟩
    have HB := hide hb1
    clear hb1
    go_wp2
    go_ret2
    exact ⟨⟨_, rfl⟩, HB.out⟩
  · obtain ⟨v, hv1⟩ : ∃ v, Lib.atoiAll s.data.toList = .ok v := by
      rcases Classical.not_forall.1 hk with ⟨v, h1⟩
      exact ⟨v, Classical.not_not.1 h1⟩
    have hb := Lib.atoiAll_bounds hv1
    have AT := hide (atoi_ok hs hv1 w)
    by_cases h0 : 0 ≤ v
    · by_cases h6 : s.size ≤ 6
      · have IT := hide (fun W (hW : Below w.heap.size w W) => itoa_any h0 (by omega) W (htab W hW))
        have hne : numB v ≠ s := fun e => by
          have := numL_back (l := s.data.toList) h0 (by omega) (by rw [← e]; simp [numB])
          rw [this] at h
          cases h
        have hneB : ((numB v).toList == s.toList) = false := beq_eq_false_iff_ne.2 (fun e => hne (ba_of_list (by rw [← ByteArray.toList_eq, ← ByteArray.toList_eq]; exact e)))
        clear h hv htab hk hsz hv1 hb hne
        go_enter Tryz.func62, Tryz.ntmps62
        go_wp2_with fail
        refine AT.out.mono ?_
        rintro e w1 ⟨rfl, hb1⟩
        have HB := hide hb1
        clear hb1
        go_wp2_with fail
        refine (IT.out _ HB.out).mono ?_
        rintro e w2 ⟨rfl, hb2⟩
        have HC := hide (HB.out.trans (hb2.mono HB.out.size))
        clear hb2
        go_wp2
        go_ret2
        exact ⟨⟨_, rfl⟩, HC.out⟩
      · clear h hv htab hk hsz hv1 hb
        have h6' : 6 < s.size := by omega
        clear h6
        go_enter Tryz.func62, Tryz.ntmps62
        go_wp2_with fail
        refine AT.out.mono ?_
        rintro e w1 ⟨rfl, hb1⟩
        have HB := hide hb1
        clear hb1
        go_wp2
        go_ret2
        exact ⟨⟨_, rfl⟩, HB.out⟩
    · clear h hv htab hk hsz hv1 hb
      have h0' : v < 0 := by omega
      clear h0
      go_enter Tryz.func62, Tryz.ntmps62
      go_wp2_with fail
      refine AT.out.mono ?_
      rintro e w1 ⟨rfl, hb1⟩
      have HB := hide hb1
      clear hb1
      go_wp2
      go_ret2
      exact ⟨⟨_, rfl⟩, HB.out⟩
end Go.Proofs.YtlnghfmcofmkjaaGreatDoor
