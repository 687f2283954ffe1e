/- Lines of bytes, plainly; what strings.IndexByte says of them. -/
import Derived.Lib.Bytealg
import Derived.WalkKit
namespace Go.Proofs.YtjbpkmmpbhngbaaGreatDoor
open Go.RowKit

/-- the lines of bytes, each with its byte 10, but for the last one -/
def linesL : List UInt8 → List (List UInt8)
  | [] => []
  | c :: r => if c = 10 then [10] :: linesL r else match linesL r with
    | [] => [[c]]
    | l :: ls => (c :: l) :: ls
theorem linesL_line (l r : List UInt8) (h : ∀ c ∈ l, c ≠ 10) : linesL (l ++ 10 :: r) = (l ++ [10]) :: linesL r := by
  induction l with
  | nil => simp [linesL]
  | cons c l ih =>
    have h1 := ih (fun x hx => h x (by simp [hx]))
    have h2 : c ≠ 10 := h c (by simp)
    simp only [List.cons_append, linesL, h2, if_false, h1]
theorem linesL_last (l : List UInt8) (h : ∀ c ∈ l, c ≠ 10) (hn : l ≠ []) : linesL l = [l] := by
  induction l with
  | nil => exact absurd rfl hn
  | cons c l ih =>
    have h2 : c ≠ 10 := h c (by simp)
    cases l with
    | nil => simp [linesL, h2]
    | cons d l =>
      have h1 := ih (fun x hx => h x (by simp [hx])) (by simp)
      rw [linesL, if_neg h2, h1]
theorem idxB_none (l : List UInt8) (h : ∀ c ∈ l, c ≠ 10) : Lib.indexByte l 10 = -1 := by
  induction l with
  | nil => rfl
  | cons c l ih =>
    have h2 : (c == 10) = false := beq_eq_false_iff_ne.2 (h c (by simp))
    simp [Lib.indexByte, h2, ih (fun x hx => h x (by simp [hx]))]
theorem idxB_some (l r : List UInt8) (h : ∀ c ∈ l, c ≠ 10) : Lib.indexByte (l ++ 10 :: r) 10 = l.length := by
  induction l with
  | nil => simp [Lib.indexByte]
  | cons c l ih =>
    have h2 : (c == 10) = false := beq_eq_false_iff_ne.2 (h c (by simp))
    have h3 := ih (fun x hx => h x (by simp [hx]))
    simp only [List.cons_append, Lib.indexByte, h2, h3, List.length_cons]
    rw [if_neg (by simp)]
    have e : ((l.length : Int) == -1) = false := beq_eq_false_iff_ne.2 (by omega)
    simp [e]
theorem line_cut (l : List UInt8) : (∀ c ∈ l, c ≠ 10) ∨ ∃ a r, l = a ++ 10 :: r ∧ ∀ c ∈ a, c ≠ 10 := by
  induction l with
  | nil => exact .inl (by simp)
  | cons c l ih =>
    by_cases hc : c = 10
    · exact .inr ⟨[], l, by simp [hc], by simp⟩
    · rcases ih with h | ⟨a, r, e, h⟩
      · exact .inl (by intro x hx; rcases List.mem_cons.1 hx with rfl | h'; exact hc; exact h x h')
      · exact .inr ⟨c :: a, r, by simp [e], by intro x hx; rcases List.mem_cons.1 hx with rfl | h'; exact hc; exact h x h'⟩
/-- what comes first of bytes that are some -/
theorem line_first (t : ByteArray) (hn : 0 < t.size) :
    (Lib.indexByte t.data.toList 10 = -1 ∧ linesL t.data.toList = [t.data.toList]) ∨
    ∃ i : Nat, i < t.size ∧ Lib.indexByte t.data.toList 10 = i ∧ linesL t.data.toList = (t.extract 0 (i + 1)).data.toList :: linesL (t.extract (i + 1) t.size).data.toList := by
  have hne : t.data.toList ≠ [] := by
    intro h
    have h1 : t.data.toList.length = 0 := by rw [h]; rfl
    have h2 : t.data.toList.length = t.size := by simp
    omega
  rcases line_cut t.data.toList with h | ⟨a, r, e, h⟩
  · exact .inl ⟨idxB_none _ h, linesL_last _ h hne⟩
  · refine .inr ⟨a.length, ?_, by rw [e]; exact idxB_some a r h, ?_⟩
    · have : t.data.toList.length = a.length + 1 + r.length := by rw [e]; simp; omega
      have h2 : t.data.toList.length = t.size := by simp
      omega
    · have h1 : (t.extract 0 (a.length + 1)).data.toList = a ++ [10] := by
        simp [e, List.take_append, List.take_of_length_le (Nat.le_succ a.length)]
      have hs : t.size = a.length + 1 + r.length := by
        have : t.data.toList.length = a.length + 1 + r.length := by rw [e]; simp; omega
        simpa using this
      have h2 : (t.extract (a.length + 1) t.size).data.toList = r := by
        simp only [ByteArray.data_extract, Array.toList_extract, List.extract_eq_take_drop, e]
        rw [List.drop_append, List.drop_of_length_le (Nat.le_succ a.length)]
        have e3 : a.length + 1 - a.length = 1 := by omega
        rw [e3, hs]
        have e4 : a.length + 1 + r.length - (a.length + 1) = r.length := by omega
        rw [e4]
        simp
      rw [h1, h2, e]
      exact linesL_line a r h
theorem linesL_nil_iff (l : List UInt8) : linesL l = [] ↔ l = [] := by
  cases l with
  | nil => simp [linesL]
  | cons c l =>
    simp only [linesL]
    split
    · simp
    · split <;> simp
end Go.Proofs.YtjbpkmmpbhngbaaGreatDoor
