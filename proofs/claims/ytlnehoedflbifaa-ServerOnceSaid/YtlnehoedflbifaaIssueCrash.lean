/- issue: Crash by contract. -/
import Derived.Test.YtlnehoedflbifaaIssue
import Derived.Test.YtlnehoedflbifaaBlockC
namespace Go.Proofs.Ytlnehoedflbifaa
open Go.RowKit

theorem issueCrash (b bb : Nat) (n m many : Int) (w : World) (h : IssAt w b bb n m many) :
    Calls Try.prog 21 #[.pointer (some ⟨b, 0, none⟩)] w fun e w' => e = .returned (.tuple #[]) ∧ IssAt w' b bb m m many ∧ Kept [b, bb] w w' := by
  obtain ⟨hI, hK, hne⟩ := h
  have q0 := hI.cell (i := 0) rfl
  have C := hide (blockCrash bb n m w hK)
  have HI := hide hI
  clear hI hK
  go_enter Try.func21, Try.ntmps21
  go_wp2_with fail
  refine C.out.mono ?_
  rintro e w1 ⟨rfl, ho, hk⟩
  go_wp2
  go_returns
  exact ⟨rfl, ⟨hk.obj HI.out (by simpa using hne), ho, hne⟩, hk.mono (fun x hx => by simp at hx; simp [hx])⟩
end Go.Proofs.Ytlnehoedflbifaa
