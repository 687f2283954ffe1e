/- foldref2: Blocks.Next by contract. -/
import Derived.Test.YtelegodagepeeaaDoorBlock
namespace Go.Proofs.YtelegodagepeeaaDoor
open Go.RowKit

def RBlkAt (w : World) (b : Nat) (n m : Int) : Prop := ObjAt w b 52 [.int .i64 n, .int .i64 m]

theorem rblockNext (b : Nat) (n m : Int) (w : World) (h : RBlkAt w b n m) (h0 : 0 ≤ n) (h1 : n ≤ m) (h2 : m ≤ 1000) :
    Calls Tryd.prog 28 #[.pointer (some ⟨b, 0, none⟩)] w fun e w' => e = .returned (.tuple #[.int .i64 (blkNext n m).1, .int .i64 (blkNext n m).2.1]) ∧ RBlkAt w' b (blkNext n m).2.2.1 (blkNext n m).2.2.2 ∧ Kept [b] w w' := by
  have c0 := h.cell (i := 0) rfl
  have c1 := h.cell (i := 1) rfl
  have f0 := h.free 0
  have f1 := h.free 1
  by_cases e : n = m
  · subst e
    by_cases g : n + 8 > 1000
    · rw [show blkNext n n = (0, 4, n, n) by simp [blkNext, g]]
      have fin : ∀ k, RBlkAt (w.drewN k) b n n ∧ Kept [b] w (w.drewN k) := fun k => ⟨h.drewN k, (Kept.refl _ _).drewN k⟩
      have Fin := hide fin
      clear fin h
      go_enter Tryd.func28, Tryd.ntmps28
      go_wp2
      go_quiet (fail)
      go_wp2
      go_ret2
      exact ⟨rfl, Fin.out _⟩
    · rw [show blkNext n n = (n, 0, n + 1, n + 8) by simp [blkNext, g]]
      have fin : ∀ k, RBlkAt (((w.drewN k).setCell ⟨b, 1, none⟩ (.int .i64 (n + 8))).setCell ⟨b, 0, none⟩ (.int .i64 (n + 1))) b (n + 1) (n + 8) ∧ Kept [b] w (((w.drewN k).setCell ⟨b, 1, none⟩ (.int .i64 (n + 8))).setCell ⟨b, 0, none⟩ (.int .i64 (n + 1))) :=
        fun k => ⟨((h.drewN k).set 1 _).set 0 _, (((Kept.refl _ _).drewN k).setCell (.inl (by simp)) _).setCell (.inl (by simp)) _⟩
      have Fin := hide fin
      clear fin h
      go_enter Tryd.func28, Tryd.ntmps28
      go_wp2
      go_quiet (fail)
      go_wp2
      go_ret2
      exact ⟨rfl, Fin.out _⟩
  · rw [show blkNext n m = (n, 0, n + 1, m) by simp [blkNext, e]]
    have hlt : n < m := by omega
    have fin : ∀ k, RBlkAt ((w.drewN k).setCell ⟨b, 0, none⟩ (.int .i64 (n + 1))) b (n + 1) m ∧ Kept [b] w ((w.drewN k).setCell ⟨b, 0, none⟩ (.int .i64 (n + 1))) :=
      fun k => ⟨(h.drewN k).set 0 _, ((Kept.refl _ _).drewN k).setCell (.inl (by simp)) _⟩
    have Fin := hide fin
    clear fin h e
    go_enter Tryd.func28, Tryd.ntmps28
    go_wp2
    go_quiet (fail)
    go_wp2
    go_ret2
    exact ⟨rfl, Fin.out _⟩
end Go.Proofs.YtelegodagepeeaaDoor
