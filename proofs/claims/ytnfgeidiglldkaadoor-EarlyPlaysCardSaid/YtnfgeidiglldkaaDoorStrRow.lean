/- A slice of strings that came in: none, or its cells. Strings in parts. -/
import Derived.Test.YtnfgeidiglldkaaDoorOpen
import Derived.Test.YtnfgeidiglldkaaDoorObj
namespace Go.Proofs.YtnfgeidiglldkaaDoor
open Go.RowKit

theorem StrRow.split {w : World} {a : Option Addr} {len : Nat} {ss : List ByteArray} (h : StrRow w a len ss) :
    len = 0 ∨ ∃ b off, a = some ⟨b, off, none⟩ ∧ b < w.heap.size ∧ len ≤ maxLen ∧ ss.length = len ∧ (∀ i, i < len → (ss.getD i ByteArray.empty).size ≤ maxLen) ∧ ∀ i, i < len → w.cell? ⟨b, off + i, none⟩ = some (.string (ss.getD i ByteArray.empty)) := by
  obtain ⟨h1, h2, h3, h4⟩ := h
  rcases h4 with h0 | ⟨b, off, rfl, hlt, hc⟩
  · exact .inl h0
  · exact .inr ⟨b, off, rfl, hlt, h2, h1, fun i hi => h3 _ (by rw [List.getD, List.getElem?_eq_getElem (by omega)]; simp), fun i hi => by have := hc i 0 hi (by omega); simpa using this⟩
theorem ba_append_empty (s : ByteArray) : s ++ (⟨#[]⟩ : ByteArray) = s := by
  apply ByteArray.ext; simp [ByteArray.data_append]
theorem ba_append_assoc (a b c : ByteArray) : (a ++ b) ++ c = a ++ (b ++ c) := by
  apply ByteArray.ext; simp [ByteArray.data_append, Array.append_assoc]
theorem ba_size_append (a b : ByteArray) : (a ++ b).size = a.size + b.size := by
  simp
theorem ba_extract_left (a b : ByteArray) : (a ++ b).extract 0 a.size = a := by
  apply ByteArray.ext
  rw [ByteArray.data_extract, ByteArray.data_append]
  have : a.size = a.data.size := rfl
  rw [this, Array.extract_append_left]
  simp
end Go.Proofs.YtnfgeidiglldkaaDoor
