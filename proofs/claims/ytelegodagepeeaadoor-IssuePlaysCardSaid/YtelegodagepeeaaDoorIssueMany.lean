/- issue: Many by contract. -/
import Derived.Test.YtelegodagepeeaaDoorIssue
namespace Go.Proofs.YtelegodagepeeaaDoor
open Go.RowKit

theorem issueMany (b bb : Nat) (n m many : Int) (w : World) (h : IssAt w b bb n m many) : Calls Tryd.prog 31 #[.pointer (some ⟨b, 0, none⟩)] w fun e w' => e = .returned (.int .i64 many) ∧ w = w' := by
  have c1 := h.1.cell (i := 1) rfl
  clear h
  go_enter Tryd.func31, Tryd.ntmps31
  go_wp2
  go_ret
  exact ⟨rfl, rfl⟩

end Go.Proofs.YtelegodagepeeaaDoor
