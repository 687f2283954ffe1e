/- foldref1: Tag of three numbers by contract. -/
import Derived.Test.YtmbklchoplgdlaaDoorRef1
namespace Go.Proofs.YtmbklchoplgdlaaDoor
open Go.RowKit
theorem rTag3 {key x y z : Int} (hk : 0 ≤ key ∧ key < 999983) (hx : 0 ≤ x ∧ x < 999983) (hy : 0 ≤ y ∧ y < 999983) (hz : 0 ≤ z ∧ z < 999983) (W : World) (b : Nat) (h : ObjAt W b 3 [.int .i64 x, .int .i64 y, .int .i64 z]) :
    Calls Tryd.prog 68 #[.int .i64 key, .slice (some ⟨b, 0, none⟩) 3 3] W fun e w' => e = .returned (.int .i64 (tagOf key [x, y, z])) ∧ W = w' := by
  refine rTag_row key [x, y, z] b 0 3 W hk ?_ (by simp) ?_
  · intro v hv
    simp only [List.mem_cons, List.not_mem_nil, or_false] at hv
    rcases hv with rfl | rfl | rfl <;> assumption
  intro i hi
  match i, hi with
  | 0, _ => simpa using h.cell (i := 0) rfl
  | 1, _ => simpa using h.cell (i := 1) rfl
  | 2, _ => simpa using h.cell (i := 2) rfl
end Go.Proofs.YtmbklchoplgdlaaDoor
