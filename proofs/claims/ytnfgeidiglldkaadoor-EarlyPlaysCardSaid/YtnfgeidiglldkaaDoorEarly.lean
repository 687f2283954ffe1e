/- early: New, Put, Take, Left by contracts. -/
import Derived.Test.YtnfgeidiglldkaaDoorErrV
import Derived.Test.YtnfgeidiglldkaaDoorObj
import Derived.Handy
import Derived.Deep.QuietTactic
import Derived.BigQuiet
namespace Go.Proofs.YtnfgeidiglldkaaDoor
open Go.RowKit

def EarlyAt (w : World) (b : Nat) (s : ByteArray) (n : Int) : Prop := ObjAt w b 71 [.string s, .int .i64 n]

theorem earlyNew_ok (n : Int) (w : World) (h0 : 0 ≤ n) (h1 : n ≤ 40) : Calls Tryd.prog 15 #[.int .i64 n] w fun e w' => e = .returned (.tuple #[.pointer (some ⟨w.heap.size, 0, none⟩), .nilIface]) ∧ w.alloc (.cells #[.string ⟨#[]⟩, .int .i64 n] 71) = w' := by
  go_enter Tryd.func15, Tryd.ntmps15
  go_wp2
  go_ret2
  exact ⟨rfl, rfl⟩
theorem earlyNew_bad (n : Int) (w : World) (h : n < 0 ∨ 40 < n) : Calls Tryd.prog 15 #[.int .i64 n] w fun e w' => e = .returned (.tuple #[.pointer none, .iface 68 (.int .i64 1)]) ∧ w = w' := by
  rcases h with h | h
  all_goals
    go_enter Tryd.func15, Tryd.ntmps15
    go_wp2
    go_ret2
    exact ⟨rfl, rfl⟩
theorem earlyPut_full (b : Nat) (s d : ByteArray) (n : Int) (w : World) (h : EarlyAt w b s n) (hd : n < d.size) :
    Calls Tryd.prog 16 #[.pointer (some ⟨b, 0, none⟩), .string d] w fun e w' => e = .returned (.iface 68 (.int .i64 4)) ∧ EarlyAt w' b s n ∧ Kept [b] w w' := by
  have c0 := h.cell (i := 0) rfl
  have c1 := h.cell (i := 1) rfl
  have fin : ∀ k, EarlyAt (w.drewN k) b s n ∧ Kept [b] w (w.drewN k) := fun k => ⟨h.drewN k, (Kept.refl _ _).drewN k⟩
  have Fin := hide fin
  clear fin h
  go_enter Tryd.func16, Tryd.ntmps16
  go_wp2
  go_ret
  exact ⟨rfl, Fin.out 0⟩
theorem earlyPut_ok (b : Nat) (s d : ByteArray) (n : Int) (w : World) (h : EarlyAt w b s n) (hd : d.size ≤ n) (hn : n ≤ 40) (hs : s.size ≤ 100) :
    Calls Tryd.prog 16 #[.pointer (some ⟨b, 0, none⟩), .string d] w fun e w' => e = .returned .nilIface ∧ EarlyAt w' b (s ++ d) (n - d.size) ∧ Kept [b] w w' := by
  have c0 := h.cell (i := 0) rfl
  have c1 := h.cell (i := 1) rfl
  have f0 := h.free 0
  have f1 := h.free 1
  go_enter Tryd.func16, Tryd.ntmps16
  go_wp2
  go_ret
  exact ⟨rfl, (h.set 0 _).set 1 _, ((Kept.refl _ _).setCell (.inl (by simp)) _).setCell (.inl (by simp)) _⟩
theorem earlyTake (b : Nat) (s : ByteArray) (n : Int) (w : World) (h : EarlyAt w b s n) :
    Calls Tryd.prog 17 #[.pointer (some ⟨b, 0, none⟩)] w fun e w' => e = .returned (.string s) ∧ EarlyAt w' b ⟨#[]⟩ n ∧ Kept [b] w w' := by
  have c0 := h.cell (i := 0) rfl
  have f0 := h.free 0
  go_enter Tryd.func17, Tryd.ntmps17
  go_wp2
  go_ret
  exact ⟨rfl, h.set 0 _, (Kept.refl _ _).setCell (.inl (by simp)) _⟩
theorem earlyLeft (b : Nat) (s : ByteArray) (n : Int) (w : World) (h : EarlyAt w b s n) :
    Calls Tryd.prog 18 #[.pointer (some ⟨b, 0, none⟩)] w fun e w' => e = .returned (.int .i64 n) ∧ w = w' := by
  have c1 := h.cell (i := 1) rfl
  go_enter Tryd.func18, Tryd.ntmps18
  go_wp2
  go_ret
  exact ⟨rfl, rfl⟩
end Go.Proofs.YtnfgeidiglldkaaDoor
