/- block: Crash. issue: Crash by contract. -/
import Derived.Test.YtgmljcpeklpniaaDoorBlock
import Derived.Test.YtgmljcpeklpniaaDoorIssue
namespace Go.Proofs.YtgmljcpeklpniaaDoor
open Go.RowKit
theorem blockCrash (b : Nat) (n m : Int) (w : World) (h : BlkAt w b n m) :
    Calls Tryd.prog 39 #[.pointer (some ⟨b, 0, none⟩)] w fun e w' => e = .returned (.tuple #[]) ∧ BlkAt w' b m m ∧ Kept [b] w w' := by
  have c0 := h.cell (i := 0) rfl
  have c1 := h.cell (i := 1) rfl
  have f0 := h.free 0
  have fin : BlkAt (w.setCell ⟨b, 0, none⟩ (.int .i64 m)) b m m ∧ Kept [b] w (w.setCell ⟨b, 0, none⟩ (.int .i64 m)) := ⟨h.set 0 _, (Kept.refl _ _).setCell (.inl (by simp)) _⟩
  have Fin := hide fin
  clear fin h
  go_enter Tryd.func39, Tryd.ntmps39
  go_wp2
  go_returns
  exact ⟨rfl, Fin.out⟩
end Go.Proofs.YtgmljcpeklpniaaDoor

namespace Go.Proofs.YtgmljcpeklpniaaDoor
open Go.RowKit

theorem issueCrash (b bb : Nat) (n m many : Int) (w : World) (h : IssAt w b bb n m many) :
    Calls Tryd.prog 17 #[.pointer (some ⟨b, 0, none⟩)] w fun e w' => e = .returned (.tuple #[]) ∧ IssAt w' b bb m m many ∧ Kept [b, bb] w w' := by
  obtain ⟨hI, hK, hne⟩ := h
  have q0 := hI.cell (i := 0) rfl
  have C := hide (blockCrash bb n m w hK)
  have HI := hide hI
  clear hI hK
  go_enter Tryd.func17, Tryd.ntmps17
  go_wp2_with fail
  refine C.out.mono ?_
  rintro e w1 ⟨rfl, ho, hk⟩
  go_wp2
  go_returns
  exact ⟨rfl, ⟨hk.obj HI.out (by simpa using hne), ho, hne⟩, hk.mono (fun x hx => by simp at hx; simp [hx])⟩
end Go.Proofs.YtgmljcpeklpniaaDoor
