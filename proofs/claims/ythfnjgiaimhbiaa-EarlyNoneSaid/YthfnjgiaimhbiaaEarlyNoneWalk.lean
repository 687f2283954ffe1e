/- The walk of EarlyNone. -/
import Derived.Test.YthfnjgiaimhbiaaEarly
namespace Go.Proofs.Ythfnjgiaimhbiaa
open Go.RowKit
theorem walkEarlyNone (w : World) (a0 : ByteArray) (w0 : a0.size ≤ maxLen) :
    Calls Try.prog 5 #[.string a0] w fun e w' => e = .returned (.bool true) ∧ Below w.heap.size w w' := by
  have hw0 : EarlyAt (w.alloc (.cells #[.string ⟨#[]⟩, .int .i64 0] 69)) w.heap.size ⟨#[]⟩ 0 := ObjAt.new _ _ _
  have hb0 : Below w.heap.size w (w.alloc (.cells #[.string ⟨#[]⟩, .int .i64 0] 69)) := (Below.refl _ _).alloc (Nat.le_refl _) _
  have H0 := hide hw0
  clear hw0
  unfold maxLen at w0
  have N0 := hide (fun W => earlyNew_ok 0 W (by omega) (by omega))
  by_cases hs : 0 < a0.size
  · have t1 : a0.toList.isEmpty = false := by
      have : a0.toList.length = a0.size := by rw [ByteArray.toList_eq]; simp
      cases h : a0.toList with
      | nil => rw [h] at this; simp at this; omega
      | cons x l => rfl
    go_enter Try.func5, Try.ntmps5
    go_wp2_with fail
    refine (N0.out _).mono ?_
    rintro e w1 ⟨rfl, rfl⟩
    go_wp2_with fail
    refine (earlyPut_full _ _ _ _ _ H0.out (by omega)).mono ?_
    rintro e w1 ⟨rfl, ho1, hk1⟩
    have H1 := hide ho1
    have B1 := bel_kept hb0 hk1
    clear ho1 hk1
    go_wp2_with fail
    refine (earlyTake _ _ _ _ H1.out).mono ?_
    rintro e w2 ⟨rfl, ho2, hk2⟩
    have H2 := hide ho2
    have B2 := bel_kept B1 hk2
    clear ho2 hk2
    go_wp2_with fail
    refine (earlyLeft _ _ _ _ H2.out).mono ?_
    rintro e w3 ⟨rfl, rfl⟩
    go_wp2
    go_ret
    exact ⟨rfl, B2⟩
  · have ha : a0 = ⟨#[]⟩ := by
      obtain ⟨x⟩ := a0
      have : x.size = 0 := by have : (ByteArray.mk x).size = x.size := rfl
                              omega
      rw [Array.eq_empty_of_size_eq_zero this]
    subst ha
    clear w0 hs
    go_enter Try.func5, Try.ntmps5
    go_wp2_with fail
    refine (N0.out _).mono ?_
    rintro e w1 ⟨rfl, rfl⟩
    go_wp2_with fail
    refine (earlyPut_ok _ _ _ _ _ H0.out (by decide) (by omega) (by decide)).mono ?_
    rintro e w1 ⟨rfl, ho1, hk1⟩
    have H1 := hide (show EarlyAt w1 w.heap.size ⟨#[]⟩ 0 from ho1)
    have B1 := bel_kept hb0 hk1
    clear ho1 hk1
    go_wp2_with fail
    refine (earlyTake _ _ _ _ H1.out).mono ?_
    rintro e w2 ⟨rfl, ho2, hk2⟩
    have H2 := hide ho2
    have B2 := bel_kept B1 hk2
    clear ho2 hk2
    go_wp2_with fail
    refine (earlyLeft _ _ _ _ H2.out).mono ?_
    rintro e w3 ⟨rfl, rfl⟩
    go_wp2
    go_ret
    exact ⟨rfl, B2⟩
end Go.Proofs.Ythfnjgiaimhbiaa
