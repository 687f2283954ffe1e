/- The walk of VaultEmpty. -/
import Derived.Test.YthfnjgiaimhbiaaTag
namespace Go.Proofs.Ythfnjgiaimhbiaa
open Go.RowKit

theorem spentIs_nil (n : Int) (w : World) : Calls Try.prog 42 #[.slice none 0 0, .int .i64 n] w fun e w' => e = .returned (.bool false) ∧ Below w.heap.size w w' := by
  go_enter Try.func42, Try.ntmps42
  go_wp2
  go_rounds 1
  go_ret
  exact ⟨rfl, by go_grown⟩
def VaultNil (w : World) (b : Nat) : Prop := ObjAt w b 76 [.slice none 0 0, .slice none 0 0]
theorem vaultNew (w : World) : Calls Try.prog 30 #[] w fun e w' => e = .returned (.pointer (some ⟨w.heap.size, 0, none⟩)) ∧ w.alloc (.cells #[.slice none 0 0, .slice none 0 0] 76) = w' := by
  go_enter Try.func30, Try.ntmps30
  go_wp2
  go_ret
  exact ⟨rfl, rfl⟩
/-- what Has and Sure tell of an empty vault -/
theorem vaultIs_nil (n : Int) (w : World) : Calls Try.prog 41 #[.slice none 0 0, .int .i64 n] w fun e w' => e = .returned (.tuple #[.bool false, errV (if inB n then 0 else 1)]) ∧ Below w.heap.size w w' := by
  cases hn : inB n
  · have T := hide (fun W => tagIn_eq hn W)
    clear hn
    go_enter Try.func41, Try.ntmps41
    go_wp2_with fail
    refine (T.out _).mono ?_
    rintro e w1 ⟨rfl, rfl⟩
    go_wp2
    go_ret2
    exact ⟨rfl, Below.refl _ _⟩
  · have T := hide (fun W => tagIn_eq hn W)
    clear hn
    go_enter Try.func41, Try.ntmps41
    go_wp2_with fail
    refine (T.out _).mono ?_
    rintro e w1 ⟨rfl, rfl⟩
    go_wp2_with fail
    refine (spentIs_nil _ _).mono ?_
    rintro e w1 ⟨rfl, hb⟩
    go_wp2
    go_ret2
    exact ⟨rfl, hb⟩
theorem vaultHas_nil (b : Nat) (n c : Int) (w : World) (h : VaultNil w b) (hc : (if inB n then (0 : Int) else 1) = c) : Calls Try.prog 31 #[.pointer (some ⟨b, 0, none⟩), .int .i64 n] w fun e w' => e = .returned (.tuple #[.bool false, errV c]) ∧ Below w.heap.size w w' := by
  have c0 := h.cell (i := 0) rfl
  have I := hide (fun W => vaultIs_nil n W)
  rw [hc] at I
  clear h hc
  go_enter Try.func31, Try.ntmps31
  go_wp2_with fail
  refine (I.out _).mono ?_
  rintro e w1 ⟨rfl, hb⟩
  go_wp2
  go_ret2
  exact ⟨rfl, hb⟩
theorem vaultSure_nil (b : Nat) (n c : Int) (w : World) (h : VaultNil w b) (hc : (if inB n then (0 : Int) else 1) = c) : Calls Try.prog 32 #[.pointer (some ⟨b, 0, none⟩), .int .i64 n] w fun e w' => e = .returned (.tuple #[.bool false, errV c]) ∧ Below w.heap.size w w' := by
  have c0 := h.cell (i := 1) rfl
  have I := hide (fun W => vaultIs_nil n W)
  rw [hc] at I
  clear h hc
  go_enter Try.func32, Try.ntmps32
  go_wp2_with fail
  refine (I.out _).mono ?_
  rintro e w1 ⟨rfl, hb⟩
  go_wp2
  go_ret2
  exact ⟨rfl, hb⟩

theorem walkVaultEmpty (w : World) (n : Int) (_wn : (Lit.int .i64 n).wf = true) :
    Calls Try.prog 11 #[.int .i64 n] w fun e w' => e = .returned (.bool true) ∧ Below w.heap.size w w' := by
  have V0 : ∀ W : World, VaultNil (W.alloc (.cells #[.slice none 0 0, .slice none 0 0] 76)) W.heap.size := fun W => ObjAt.new _ _ _
  have HV := hide V0
  clear V0
  have H1 : ∀ b W, VaultNil W b → Calls Try.prog 31 #[.pointer (some ⟨b, 0, none⟩), .int .i64 (-1)] W fun e w' => e = .returned (.tuple #[.bool false, .iface 58 (.int .i64 1)]) ∧ Below W.heap.size W w' := fun b W h => vaultHas_nil b (-1) 1 W h (by decide)
  have HH1 := hide H1
  clear H1
  cases hn : inB n
  · have hc := inB_false.1 hn
    have A1 : Hid (∀ b W, VaultNil W b → Calls Try.prog 31 #[.pointer (some ⟨b, 0, none⟩), .int .i64 n] W fun e w' => e = .returned (.tuple #[.bool false, .iface 58 (.int .i64 1)]) ∧ Below W.heap.size W w') := hide (fun b W h => vaultHas_nil b n 1 W h (by simp [hn]))
    have A2 : Hid (∀ b W, VaultNil W b → Calls Try.prog 32 #[.pointer (some ⟨b, 0, none⟩), .int .i64 n] W fun e w' => e = .returned (.tuple #[.bool false, .iface 58 (.int .i64 1)]) ∧ Below W.heap.size W w') := hide (fun b W h => vaultSure_nil b n 1 W h (by simp [hn]))
    clear hn
    rcases hc with hc | hc
    all_goals
      go_enter Try.func11, Try.ntmps11
      go_wp2_with fail
      refine (vaultNew _).mono ?_
      rintro e w1 ⟨rfl, rfl⟩
      go_wp2_with fail
      refine (HH1.out _ _ (HV.out _)).mono ?_
      rintro e w1 ⟨rfl, hb1⟩
      have hB1 := bel_a1 hb1
      go_wp2_with fail
      refine (vaultNew _).mono ?_
      rintro e w2 ⟨rfl, rfl⟩
      have hB2 := hB1.alloc hB1.size (.cells #[.slice none 0 0, .slice none 0 0] 76)
      go_wp2_with fail
      refine (A1.out _ _ (HV.out _)).mono ?_
      rintro e w3 ⟨rfl, hb3⟩
      have hB3 := hB2.trans (hb3.mono (Nat.le_trans hB1.size (by simp)))
      have hV3 := hide (ObjAt.below (HV.out w1) hb3)
      go_wp2_with fail
      refine (A2.out _ _ hV3.out).mono ?_
      rintro e w4 ⟨rfl, hb4⟩
      have hB4 := hB3.trans (hb4.mono hB3.size)
      go_wp2
      go_ret
      first | exact ⟨rfl, hB4⟩ | exact ⟨retB (a := decide (n < 0) || decide (999982 < n)) (by simp; omega), hB4⟩
  · have A1 : Hid (∀ b W, VaultNil W b → Calls Try.prog 31 #[.pointer (some ⟨b, 0, none⟩), .int .i64 n] W fun e w' => e = .returned (.tuple #[.bool false, .nilIface]) ∧ Below W.heap.size W w') := hide (fun b W h => vaultHas_nil b n 0 W h (by simp [hn]))
    have A2 : Hid (∀ b W, VaultNil W b → Calls Try.prog 32 #[.pointer (some ⟨b, 0, none⟩), .int .i64 n] W fun e w' => e = .returned (.tuple #[.bool false, .nilIface]) ∧ Below W.heap.size W w') := hide (fun b W h => vaultSure_nil b n 0 W h (by simp [hn]))
    clear hn
    go_enter Try.func11, Try.ntmps11
    go_wp2_with fail
    refine (vaultNew _).mono ?_
    rintro e w1 ⟨rfl, rfl⟩
    go_wp2_with fail
    refine (HH1.out _ _ (HV.out _)).mono ?_
    rintro e w1 ⟨rfl, hb1⟩
    have hB1 := bel_a1 hb1
    go_wp2_with fail
    refine (vaultNew _).mono ?_
    rintro e w2 ⟨rfl, rfl⟩
    have hB2 := hB1.alloc hB1.size (.cells #[.slice none 0 0, .slice none 0 0] 76)
    go_wp2_with fail
    refine (A1.out _ _ (HV.out _)).mono ?_
    rintro e w3 ⟨rfl, hb3⟩
    have hB3 := hB2.trans (hb3.mono (Nat.le_trans hB1.size (by simp)))
    have hV3 := hide (ObjAt.below (HV.out w1) hb3)
    go_wp2_with fail
    refine (A2.out _ _ hV3.out).mono ?_
    rintro e w4 ⟨rfl, hb4⟩
    have hB4 := hB3.trans (hb4.mono hB3.size)
    go_wp2
    go_ret
    exact ⟨rfl, hB4⟩
end Go.Proofs.Ythfnjgiaimhbiaa
