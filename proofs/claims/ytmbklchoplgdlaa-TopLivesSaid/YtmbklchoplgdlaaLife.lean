/- life: New, Start, Next by contracts. -/
import Derived.Test.YtmbklchoplgdlaaErrV
import Derived.Test.YtmbklchoplgdlaaObj
import Derived.Handy
import Derived.Deep.QuietTactic
import Derived.BigQuiet
namespace Go.Proofs.Ytmbklchoplgdlaa
open Go.RowKit

def LifeAt (w : World) (b : Nat) (n m : Int) : Prop := ObjAt w b 82 [.int .i64 n, .int .i64 m]

theorem lifeNew (w : World) : Calls Try.prog 9 #[] w fun e w' => e = .returned (.pointer (some ⟨w.heap.size, 0, none⟩)) ∧ w.alloc (.cells #[.int .i64 0, .int .i64 0] 82) = w' := by
  go_enter Try.func9, Try.ntmps9
  go_wp2
  go_ret
  exact ⟨rfl, rfl⟩

theorem lifeStart_ok (b : Nat) (n m : Int) (w : World) (h : LifeAt w b n m) (h0 : 0 ≤ n) (h1 : n < 100) :
    Calls Try.prog 10 #[.pointer (some ⟨b, 0, none⟩)] w fun e w' => e = .returned (.tuple #[.int .i64 (n + 1), .nilIface]) ∧ LifeAt w' b (n + 1) 0 ∧ Kept [b] w w' := by
  have c0 := h.cell (i := 0) rfl
  have f0 := h.free 0
  have c1 := h.cell (i := 1) rfl
  have f1 := h.free 1
  have fin : LifeAt ((w.setCell ⟨b, 0, none⟩ (.int .i64 (n + 1))).setCell ⟨b, 1, none⟩ (.int .i64 0)) b (n + 1) 0 ∧ Kept [b] w ((w.setCell ⟨b, 0, none⟩ (.int .i64 (n + 1))).setCell ⟨b, 1, none⟩ (.int .i64 0)) :=
    ⟨(h.set 0 _).set 1 _, ((Kept.refl _ _).setCell (.inl (by simp)) _).setCell (.inl (by simp)) _⟩
  have Fin := hide fin
  clear fin h
  go_enter Try.func10, Try.ntmps10
  go_wp2
  go_ret2
  exact ⟨rfl, Fin.out⟩
theorem lifeStart_full (b : Nat) (m : Int) (w : World) (h : LifeAt w b 100 m) :
    Calls Try.prog 10 #[.pointer (some ⟨b, 0, none⟩)] w fun e w' => e = .returned (.tuple #[.int .i64 0, .iface 83 (.int .i64 4)]) ∧ LifeAt w' b 100 m ∧ Kept [b] w w' := by
  have c0 := h.cell (i := 0) rfl
  have fin : LifeAt w b 100 m ∧ Kept [b] w w := ⟨h, Kept.refl _ _⟩
  have Fin := hide fin
  clear fin h
  go_enter Try.func10, Try.ntmps10
  go_wp2
  go_ret2
  exact ⟨rfl, Fin.out⟩
theorem lifeNext_ok (b : Nat) (n m : Int) (w : World) (h : LifeAt w b n m) (h0 : 0 < n) (h1 : n ≤ 100) (h2 : 0 ≤ m) (h3 : m < 30) :
    Calls Try.prog 11 #[.pointer (some ⟨b, 0, none⟩)] w fun e w' => e = .returned (.tuple #[.int .i64 n, .int .i64 m, .nilIface]) ∧ LifeAt w' b n (m + 1) ∧ Kept [b] w w' := by
  have c0 := h.cell (i := 0) rfl
  have f0 := h.free 0
  have c1 := h.cell (i := 1) rfl
  have f1 := h.free 1
  have fin : ∀ k, LifeAt ((w.setCell ⟨b, 1, none⟩ (.int .i64 (m + 1))).drewN k) b n (m + 1) ∧ Kept [b] w ((w.setCell ⟨b, 1, none⟩ (.int .i64 (m + 1))).drewN k) :=
    fun k => ⟨(h.set 1 _).drewN k, ((Kept.refl _ _).setCell (.inl (by simp)) _).drewN k⟩
  have Fin := hide fin
  clear fin h
  go_enter Try.func11, Try.ntmps11
  go_wp2
  go_quiet (fail)
  go_wp2
  go_ret3
  exact ⟨rfl, Fin.out _⟩
theorem lifeNext_full (b : Nat) (n : Int) (w : World) (h : LifeAt w b n 30) (h0 : 0 < n) :
    Calls Try.prog 11 #[.pointer (some ⟨b, 0, none⟩)] w fun e w' => e = .returned (.tuple #[.int .i64 0, .int .i64 0, .iface 83 (.int .i64 4)]) ∧ LifeAt w' b n 30 ∧ Kept [b] w w' := by
  have c0 := h.cell (i := 0) rfl
  have c1 := h.cell (i := 1) rfl
  have fin : LifeAt w b n 30 ∧ Kept [b] w w := ⟨h, Kept.refl _ _⟩
  have Fin := hide fin
  clear fin h
  go_enter Try.func11, Try.ntmps11
  go_wp2
  go_ret3
  exact ⟨rfl, Fin.out⟩
theorem lifeNext_none (b : Nat) (m : Int) (w : World) (h : LifeAt w b 0 m) :
    Calls Try.prog 11 #[.pointer (some ⟨b, 0, none⟩)] w fun e w' => e = .returned (.tuple #[.int .i64 0, .int .i64 0, .iface 83 (.int .i64 6)]) ∧ LifeAt w' b 0 m ∧ Kept [b] w w' := by
  have c0 := h.cell (i := 0) rfl
  have fin : LifeAt w b 0 m ∧ Kept [b] w w := ⟨h, Kept.refl _ _⟩
  have Fin := hide fin
  clear fin h
  go_enter Try.func11, Try.ntmps11
  go_wp2
  go_ret3
  exact ⟨rfl, Fin.out⟩

/-- what Start tells, and the state behind it -/
def lifeS (n m : Int) : Int × Int × Int × Int := if n = 100 then (0, 4, n, m) else (n + 1, 0, n + 1, 0)
/-- what Next tells, and the state behind it -/
def lifeN (n m : Int) : Int × Int × Int × Int := if n = 0 then (0, 0, 6, m) else if m = 30 then (0, 0, 4, m) else (n, m, 0, m + 1)
theorem lifeStart (b : Nat) (n m : Int) (w : World) (h : LifeAt w b n m) (h0 : 0 ≤ n) (h1 : n ≤ 100) :
    Calls Try.prog 10 #[.pointer (some ⟨b, 0, none⟩)] w fun e w' => e = .returned (.tuple #[.int .i64 (lifeS n m).1, errV (lifeS n m).2.1]) ∧ LifeAt w' b (lifeS n m).2.2.1 (lifeS n m).2.2.2 ∧ Kept [b] w w' := by
  by_cases e : n = 100
  · subst e; simp only [lifeS, if_true]; exact lifeStart_full b m w h
  · simp only [lifeS, if_neg e]; exact lifeStart_ok b n m w h h0 (by omega)
theorem lifeNext (b : Nat) (n m : Int) (w : World) (h : LifeAt w b n m) (h0 : 0 ≤ n) (h1 : n ≤ 100) (h2 : 0 ≤ m) (h3 : m ≤ 30) :
    Calls Try.prog 11 #[.pointer (some ⟨b, 0, none⟩)] w fun e w' => e = .returned (.tuple #[.int .i64 (lifeN n m).1, .int .i64 (lifeN n m).2.1, errV (lifeN n m).2.2.1]) ∧ LifeAt w' b n (lifeN n m).2.2.2 ∧ Kept [b] w w' := by
  by_cases e : n = 0
  · subst e; simp only [lifeN, if_true]; exact lifeNext_none b m w h
  · by_cases g : m = 30
    · subst g; simp only [lifeN, if_neg e, if_true]; exact lifeNext_full b n w h (by omega)
    · simp only [lifeN, if_neg e, if_neg g]; exact lifeNext_ok b n m w h (by omega) h1 h2 (by omega)
end Go.Proofs.Ytmbklchoplgdlaa
