/- life: Now. -/
import Derived.Test.YtnfgeidiglldkaaDoorLife
namespace Go.Proofs.YtnfgeidiglldkaaDoor
open Go.RowKit
theorem lifeNow (b : Nat) (n m : Int) (w : World) (h : LifeAt w b n m) :
    Calls Tryd.prog 14 #[.pointer (some ⟨b, 0, none⟩)] w fun e w' => e = .returned (.int .i64 n) ∧ w = w' := by
  have c0 := h.cell (i := 0) rfl
  clear h
  go_enter Tryd.func14, Tryd.ntmps14
  go_wp2
  go_ret
  exact ⟨rfl, rfl⟩
end Go.Proofs.YtnfgeidiglldkaaDoor
