/- The walk of TagNone. -/
import Derived.Test.YthfnjgiaimhbiaaTag
namespace Go.Proofs.Ythfnjgiaimhbiaa
open Go.RowKit

theorem walkTagNone (w : World) (a0 : Int) (_w0 : (Lit.int .i64 a0).wf = true) (a1 : Int) (_w1 : (Lit.int .i64 a1).wf = true) :
    Calls Try.prog 6 #[.int .i64 a0, .int .i64 a1] w fun e w' => e = .returned (.bool true) ∧ Below w.heap.size w w' := by
  have M1 : Hid (∀ W, Calls Try.prog 25 #[.int .i64 a1, .slice none 0 0] W fun e w' => e = .returned (.tuple #[.int .i64 (mkV a1 []), errV (mkE a1 [])]) ∧ W = w') := hide (fun W => tagMake a1 none 0 0 [] W (introw_nil W))
  cases h0 : inB a0
  · have M0 : Hid (∀ W, Calls Try.prog 25 #[.int .i64 a0, .slice none 0 0] W fun e w' => e = .returned (.tuple #[.int .i64 0, .iface 58 (.int .i64 1)]) ∧ W = w') := hide (fun W => tagMake_key a0 none 0 0 W h0)
    have hc := inB_false.1 h0
    clear h0
    rcases hc with hc | hc
    all_goals
      go_enter Try.func6, Try.ntmps6
      go_wp2_with fail
      refine (M0.out _).mono ?_
      rintro e w1 ⟨rfl, rfl⟩
      go_wp2_with fail
      refine (M1.out _).mono ?_
      rintro e w1 ⟨rfl, rfl⟩
      go_wp2
      go_ret
      first | exact ⟨rfl, Below.refl _ _⟩ | exact ⟨retB (a := decide (a0 < 0) || decide (999982 < a0)) (by simp; omega), Below.refl _ _⟩
  · have M0 : Hid (∀ W, Calls Try.prog 25 #[.int .i64 a0, .slice none 0 0] W fun e w' => e = .returned (.tuple #[.int .i64 (tagOf a0 []), .nilIface]) ∧ W = w') := hide (fun W => tagMake_ok0 a0 none 0 W h0)
    cases h1 : inB a1
    · have e1 : mkE a1 [] = 1 := by simp [mkE, h1]
      rw [e1] at M1
      have M1' : Hid (∀ W, Calls Try.prog 25 #[.int .i64 a1, .slice none 0 0] W fun e w' => e = .returned (.tuple #[.int .i64 (mkV a1 []), .iface 58 (.int .i64 1)]) ∧ W = w') := M1
      clear h0 h1 e1 M1
      go_enter Try.func6, Try.ntmps6
      go_wp2_with fail
      refine (M0.out _).mono ?_
      rintro e w1 ⟨rfl, rfl⟩
      go_wp2_with fail
      refine (M1'.out _).mono ?_
      rintro e w1 ⟨rfl, rfl⟩
      go_wp2
      go_ret
      exact ⟨rfl, Below.refl _ _⟩
    · have e1 : mkE a1 [] = 0 := by simp [mkE, h1]
      have e2 : mkV a1 [] = tagOf a1 [] := by simp [mkV, e1]
      rw [e1, e2] at M1
      have M1' : Hid (∀ W, Calls Try.prog 25 #[.int .i64 a1, .slice none 0 0] W fun e w' => e = .returned (.tuple #[.int .i64 (tagOf a1 []), .nilIface]) ∧ W = w') := M1
      obtain ⟨x, hx⟩ : ∃ x, x = tagOf a0 [] := ⟨_, rfl⟩
      obtain ⟨y, hy⟩ : ∃ y, y = tagOf a1 [] := ⟨_, rfl⟩
      have hh : (x == y) = (a0 == a1) := by
        by_cases h : a0 = a1
        · subst h; rw [hx, hy]; simp
        · have : x ≠ y := fun e => h (tagOf_key a0 a1 (inB_true.1 h0) (inB_true.1 h1) (by rw [hx, hy] at e; exact e))
          rw [beq_eq_false_iff_ne.2 h, beq_eq_false_iff_ne.2 this]
      rw [← hx] at M0
      rw [← hy] at M1'
      clear h0 h1 e1 e2 M1 hx hy
      by_cases h : a0 = a1
      · have t1 : (a0 == a1) = true := by simp [h]
        rw [t1] at hh
        clear h
        go_enter Try.func6, Try.ntmps6
        go_wp2_with fail
        refine (M0.out _).mono ?_
        rintro e w1 ⟨rfl, rfl⟩
        go_wp2_with fail
        refine (M1'.out _).mono ?_
        rintro e w1 ⟨rfl, rfl⟩
        go_wp2
        go_ret
        exact ⟨rfl, Below.refl _ _⟩
      · have t1 : (a0 == a1) = false := beq_eq_false_iff_ne.2 h
        rw [t1] at hh
        clear h
        go_enter Try.func6, Try.ntmps6
        go_wp2_with fail
        refine (M0.out _).mono ?_
        rintro e w1 ⟨rfl, rfl⟩
        go_wp2_with fail
        refine (M1'.out _).mono ?_
        rintro e w1 ⟨rfl, rfl⟩
        go_wp2
        go_ret
        exact ⟨rfl, Below.refl _ _⟩
end Go.Proofs.Ythfnjgiaimhbiaa
