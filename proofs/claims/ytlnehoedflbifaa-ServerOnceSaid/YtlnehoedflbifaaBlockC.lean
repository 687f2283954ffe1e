/- block: Crash. -/
import Derived.Test.YtlnehoedflbifaaBlock
namespace Go.Proofs.Ytlnehoedflbifaa
open Go.RowKit
theorem blockCrash (b : Nat) (n m : Int) (w : World) (h : BlkAt w b n m) :
    Calls Try.prog 40 #[.pointer (some ⟨b, 0, none⟩)] w fun e w' => e = .returned (.tuple #[]) ∧ BlkAt w' b m m ∧ Kept [b] w w' := by
  have c0 := h.cell (i := 0) rfl
  have c1 := h.cell (i := 1) rfl
  have f0 := h.free 0
  have fin : BlkAt (w.setCell ⟨b, 0, none⟩ (.int .i64 m)) b m m ∧ Kept [b] w (w.setCell ⟨b, 0, none⟩ (.int .i64 m)) := ⟨h.set 0 _, (Kept.refl _ _).setCell (.inl (by simp)) _⟩
  have Fin := hide fin
  clear fin h
  go_enter Try.func40, Try.ntmps40
  go_wp2
  go_returns
  exact ⟨rfl, Fin.out⟩
end Go.Proofs.Ytlnehoedflbifaa
