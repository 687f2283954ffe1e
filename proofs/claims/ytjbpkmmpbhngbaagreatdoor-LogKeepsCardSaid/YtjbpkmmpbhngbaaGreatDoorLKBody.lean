/- LogKeeps: the bodies of its loops, out of the translation. -/
import Derived.Test.YtjbpkmmpbhngbaaGreatDoorKeepsL
namespace Go.Proofs.YtjbpkmmpbhngbaaGreatDoor
open Go.RowKit

/-- the first loop in a code: its body -/
def firstLoop : Code → Option Code
  | .loop c => some c
  | .seq a b => match firstLoop a with
    | some c => some c
    | none => firstLoop b
  | .block _ c => firstLoop c
  | .scope c => firstLoop c
  | .cond _ a b => match firstLoop a with
    | some c => some c
    | none => firstLoop b
  | _ => none
noncomputable def lkBody1 : Code := ((Tryz.f3.body.bind firstLoop).getD .skip)
noncomputable def lkBody2 : Code := (((Tryz.f3.body.bind firstLoop).bind firstLoop).getD .skip)
theorem set_map_intK (cs : List Int) (m : Nat) (x : Int) : (cs.map (Value.int .i64)).set m (.int .i64 x) = (cs.set m x).map (Value.int .i64) := by rw [List.map_set]
theorem map3K {cs : List Int} (h : cs.length = 3) : ∃ a b c, cs = [a, b, c] := by
  match cs, h with
  | [a, b, c], _ => exact ⟨a, b, c, rfl⟩
theorem wfK {zs : List Int} (h : ∀ n ∈ zs, (Lit.int .i64 n).wf = true) (i : Nat) : (Lit.int .i64 (zs.getD i 0)).wf = true := by
  rcases Nat.lt_or_ge i zs.length with h1 | h1
  · rw [List.getD_eq_getElem?_getD, List.getElem?_eq_getElem h1]; exact h _ (List.getElem_mem h1)
  · rw [List.getD_eq_getElem?_getD, List.getElem?_eq_none h1]; rfl
theorem wfK_le {n : Int} (h : (Lit.int .i64 n).wf = true) : -9223372036854775808 ≤ n ∧ n ≤ 9223372036854775807 := by
  have h1 : (decide (IntKind.i64.min ≤ n) && decide (n ≤ IntKind.i64.max)) = true := h
  simp only [Bool.and_eq_true, decide_eq_true_eq] at h1
  have e1 : IntKind.i64.min = -9223372036854775808 := rfl
  have e2 : IntKind.i64.max = 9223372036854775807 := rfl
  rw [e1, e2] at h1
  exact h1
theorem Tryz.infoSl : (Tryz.prog.info? 31).map (fun i => (i.zero, i.size, i.bytes)) = some (some (.slice none 0 0), 1, 24) := by kernel_rfl
/-- what is known of the rows that came in -/
def MatHid (w : World) (a : Option Addr) (len : Nat) (zz : List (List Int)) : Prop := len = 0 ∨ ∃ b off, ∃ (A : Nat → Option Addr) (C : Nat → Nat), a = some ⟨b, off, none⟩ ∧ b < w.heap.size ∧ len ≤ maxLen ∧ zz.length = len ∧ (∀ i, i < len → w.cell? ⟨b, off + i, none⟩ = some (.slice (A i) (zz.getD i []).length (C i))) ∧
      ∀ i, i < len → (zz.getD i []).length ≤ C i ∧ C i ≤ maxLen ∧ IntRow w (A i) (zz.getD i []).length (zz.getD i [])
def RowHid (w : World) (a : Option Addr) (len : Nat) (zs : List Int) : Prop := len = 0 ∨ ∃ b off, a = some ⟨b, off, none⟩ ∧ b < w.heap.size ∧ len ≤ maxLen ∧ zs.length = len ∧ ∀ i, i < len → w.cell? ⟨b, off + i, none⟩ = some (.int .i64 (zs.getD i 0))
end Go.Proofs.YtjbpkmmpbhngbaaGreatDoor
