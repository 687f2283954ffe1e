/- block: Bound. -/
import Derived.Test.YthfnjgiaimhbiabDoorBlock
namespace Go.Proofs.YthfnjgiaimhbiabDoor
open Go.RowKit
theorem blockBound (b : Nat) (n m : Int) (w : World) (h : BlkAt w b n m) :
    Calls Tryd.prog 10 #[.pointer (some ⟨b, 0, none⟩)] w fun e w' => e = .returned (.int .i64 m) ∧ w = w' := by
  have c1 := h.cell (i := 1) rfl
  clear h
  go_enter Tryd.func10, Tryd.ntmps10
  go_wp2
  go_ret
  exact ⟨rfl, rfl⟩

end Go.Proofs.YthfnjgiaimhbiabDoor
