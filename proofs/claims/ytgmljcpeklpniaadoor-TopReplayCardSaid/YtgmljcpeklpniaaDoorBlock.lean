/- block: New, Next, Bound, Crash by contracts. -/
import Derived.Test.YtgmljcpeklpniaaDoorErrV
import Derived.Test.YtgmljcpeklpniaaDoorObj
import Derived.Handy
import Derived.Deep.QuietTactic
import Derived.BigQuiet
namespace Go.Proofs.YtgmljcpeklpniaaDoor
open Go.RowKit

/-- Block b is a Blocks whose next number is n, bound m. -/
def BlkAt (w : World) (b : Nat) (n m : Int) : Prop := ObjAt w b 96 [.int .i64 n, .int .i64 m]

theorem blockNew (w : World) : Calls Tryd.prog 38 #[] w fun e w' => e = .returned (.pointer (some ⟨w.heap.size, 0, none⟩)) ∧ w.alloc (.cells #[.int .i64 0, .int .i64 0] 96) = w' := by
  go_enter Tryd.func38, Tryd.ntmps38
  go_wp2
  go_ret
  exact ⟨rfl, rfl⟩

/-- there is a number left of the block -/
theorem blockNext_in (b : Nat) (n m : Int) (w : World) (h : BlkAt w b n m) (h0 : 0 ≤ n) (h1 : n < m) (h2 : m ≤ 1000) :
    Calls Tryd.prog 42 #[.pointer (some ⟨b, 0, none⟩)] w fun e w' => e = .returned (.tuple #[.int .i64 n, .nilIface]) ∧ BlkAt w' b (n + 1) m ∧ Kept [b] w w' := by
  have c0 := h.cell (i := 0) rfl
  have c1 := h.cell (i := 1) rfl
  have f0 := h.free 0
  have f1 := h.free 1
  have hne : (n == m) = false := beq_eq_false_iff_ne.2 (by omega)
  have fin : ∀ k, BlkAt ((w.drewN k).setCell ⟨b, 0, none⟩ (.int .i64 (n + 1))) b (n + 1) m ∧ Kept [b] w ((w.drewN k).setCell ⟨b, 0, none⟩ (.int .i64 (n + 1))) :=
    fun k => ⟨(h.drewN k).set 0 _, ((Kept.refl _ _).drewN k).setCell (.inl (by simp)) _⟩
  have Fin := hide fin
  clear fin h
  go_enter Tryd.func42, Tryd.ntmps42
  go_wp2
  go_quiet (fail)
  go_wp2
  go_ret2
  exact ⟨rfl, Fin.out _⟩

/-- a new block is begun -/
theorem blockNext_new (b : Nat) (n : Int) (w : World) (h : BlkAt w b n n) (h0 : 0 ≤ n) (h2 : n + 8 ≤ 1000) :
    Calls Tryd.prog 42 #[.pointer (some ⟨b, 0, none⟩)] w fun e w' => e = .returned (.tuple #[.int .i64 n, .nilIface]) ∧ BlkAt w' b (n + 1) (n + 8) ∧ Kept [b] w w' := by
  have c0 := h.cell (i := 0) rfl
  have c1 := h.cell (i := 1) rfl
  have f0 := h.free 0
  have f1 := h.free 1
  have fin : ∀ k, BlkAt (((w.drewN k).setCell ⟨b, 1, none⟩ (.int .i64 (n + 8))).setCell ⟨b, 0, none⟩ (.int .i64 (n + 1))) b (n + 1) (n + 8) ∧ Kept [b] w (((w.drewN k).setCell ⟨b, 1, none⟩ (.int .i64 (n + 8))).setCell ⟨b, 0, none⟩ (.int .i64 (n + 1))) :=
    fun k => ⟨((h.drewN k).set 1 _).set 0 _, (((Kept.refl _ _).drewN k).setCell (.inl (by simp)) _).setCell (.inl (by simp)) _⟩
  have Fin := hide fin
  clear fin h
  go_enter Tryd.func42, Tryd.ntmps42
  go_wp2
  go_quiet (fail)
  go_wp2
  go_ret2
  exact ⟨rfl, Fin.out _⟩

/-- none is left -/
theorem blockNext_full (b : Nat) (n : Int) (w : World) (h : BlkAt w b n n) (h0 : 0 ≤ n) (h1 : n ≤ 1000) (h2 : 1000 < n + 8) :
    Calls Tryd.prog 42 #[.pointer (some ⟨b, 0, none⟩)] w fun e w' => e = .returned (.tuple #[.int .i64 0, .iface 60 (.int .i64 4)]) ∧ BlkAt w' b n n ∧ Kept [b] w w' := by
  have c0 := h.cell (i := 0) rfl
  have c1 := h.cell (i := 1) rfl
  have fin : ∀ k, BlkAt (w.drewN k) b n n ∧ Kept [b] w (w.drewN k) := fun k => ⟨h.drewN k, (Kept.refl _ _).drewN k⟩
  have Fin := hide fin
  clear fin h
  go_enter Tryd.func42, Tryd.ntmps42
  go_wp2
  go_quiet (fail)
  go_wp2
  go_ret2
  exact ⟨rfl, Fin.out _⟩

/-- the state behind a Next, and what it tells -/
def blkNext (n m : Int) : Int × Int × Int × Int := if n = m then (if m + 8 > 1000 then (0, 4, n, m) else (n, 0, n + 1, m + 8)) else (n, 0, n + 1, m)
theorem blockNext (b : Nat) (n m : Int) (w : World) (h : BlkAt w b n m) (h0 : 0 ≤ n) (h1 : n ≤ m) (h2 : m ≤ 1000) :
    Calls Tryd.prog 42 #[.pointer (some ⟨b, 0, none⟩)] w fun e w' => e = .returned (.tuple #[.int .i64 (blkNext n m).1, errV (blkNext n m).2.1]) ∧ BlkAt w' b (blkNext n m).2.2.1 (blkNext n m).2.2.2 ∧ Kept [b] w w' := by
  by_cases e : n = m
  · subst e
    by_cases g : n + 8 > 1000
    · simp only [blkNext, if_true, if_pos g]
      exact blockNext_full b n w h h0 h2 (by omega)
    · simp only [blkNext, if_true, if_neg g]
      exact blockNext_new b n w h h0 (by omega)
  · simp only [blkNext, if_neg e]
    exact blockNext_in b n m w h h0 (by omega) h2

end Go.Proofs.YtgmljcpeklpniaaDoor
