/- The walk of LoadFair. -/
import Derived.Test.YthfnjgiaimhbiaaLoad
namespace Go.Proofs.Ythfnjgiaimhbiaa
open Go.RowKit

/-- one call of Needs, its answer given -/
theorem needs_eq {n v c : Int} {t o : Bool} (h : needsOf n t o = (v, c)) (W : World) : Calls Try.prog 26 #[.int .i64 n, .bool t, .bool o] W fun e w' => e = .returned (.tuple #[.int .i64 v, errV c]) ∧ W = w' := by
  have g := needsAny n t o W
  rwa [h] at g
theorem needs_ok {n : Int} (h0 : 0 ≤ n) (h1 : n ≤ 8) (t o : Bool) : ∃ v, needsOf n t o = (v, 0) ∧ (v = 0 ∨ v = 1 ∨ v = 2) ∧ (v = 1 ↔ (n < 8 ∧ (n < 4 ∨ t = true ∨ o = true))) := by
  unfold needsOf
  rw [if_neg (by omega)]
  by_cases h8 : n = 8
  · rw [if_pos h8]; exact ⟨2, rfl, by omega, by omega⟩
  · rw [if_neg h8]
    by_cases h : 4 ≤ n ∧ t = false ∧ o = false
    · rw [if_pos h]; refine ⟨0, rfl, by omega, ?_⟩
      obtain ⟨h2, rfl, rfl⟩ := h
      simp; omega
    · rw [if_neg h]; refine ⟨1, rfl, by omega, ?_⟩
      cases t <;> cases o <;> simp at h ⊢ <;> omega

theorem walkLoadFair (w : World) (a0 : Int) (_w0 : (Lit.int .i64 a0).wf = true) (a1 : Int) (_w1 : (Lit.int .i64 a1).wf = true) (a2 a3 : Bool) :
    Calls Try.prog 8 #[.int .i64 a0, .int .i64 a1, .bool a2, .bool a3] w fun e w' => e = .returned (.bool true) ∧ Below w.heap.size w w' := by
  have nm : ∀ W, Calls Try.prog 26 #[.int .i64 (-1), .bool false, .bool false] W fun e w' => e = .returned (.tuple #[.int .i64 0, .iface 58 (.int .i64 1)]) ∧ W = w' := fun W => needsAny (-1) false false W
  have n5 : ∀ W, Calls Try.prog 26 #[.int .i64 5, .bool false, .bool false] W fun e w' => e = .returned (.tuple #[.int .i64 0, .nilIface]) ∧ W = w' := fun W => needsAny 5 false false W
  have Nm := hide nm
  have N5 := hide n5
  clear nm n5
  by_cases he : a0 < 0 ∨ 8 < a0
  · have nx : ∀ W, Calls Try.prog 26 #[.int .i64 a0, .bool a2, .bool a3] W fun e w' => e = .returned (.tuple #[.int .i64 0, .iface 58 (.int .i64 1)]) ∧ W = w' := needs_eq (c := 1) (by simp [needsOf, he])
    have Nx := hide nx
    clear nx
    rcases he with he | he
    all_goals
      go_enter Try.func8, Try.ntmps8
      go_wp2_with fail
      refine (Nm.out _).mono ?_
      rintro e w' ⟨rfl, rfl⟩
      go_wp2_with fail
      refine (N5.out _).mono ?_
      rintro e w' ⟨rfl, rfl⟩
      go_wp2_with fail
      refine (Nx.out _).mono ?_
      rintro e w' ⟨rfl, rfl⟩
      go_wp2
      go_ret
      exact ⟨rfl, Below.refl _ _⟩
  · obtain ⟨nv, hn, hn3, hn1⟩ := needs_ok (n := a0) (by omega) (by omega) a2 a3
    obtain ⟨av, ha, ha3, ha1⟩ := needs_ok (n := a0) (by omega) (by omega) true a3
    obtain ⟨bv, hb, hb3, hb1⟩ := needs_ok (n := a0) (by omega) (by omega) a2 true
    have nn : ∀ W, Calls Try.prog 26 #[.int .i64 a0, .bool a2, .bool a3] W fun e w' => e = .returned (.tuple #[.int .i64 nv, .nilIface]) ∧ W = w' := needs_eq hn
    have na : ∀ W, Calls Try.prog 26 #[.int .i64 a0, .bool true, .bool a3] W fun e w' => e = .returned (.tuple #[.int .i64 av, .nilIface]) ∧ W = w' := needs_eq ha
    have nb : ∀ W, Calls Try.prog 26 #[.int .i64 a0, .bool a2, .bool true] W fun e w' => e = .returned (.tuple #[.int .i64 bv, .nilIface]) ∧ W = w' := needs_eq hb
    have na1 : nv = 1 → av = 1 := fun h => ha1.2 ⟨(hn1.1 h).1, .inr (.inl rfl)⟩
    have nb1 : nv = 1 → bv = 1 := fun h => hb1.2 ⟨(hn1.1 h).1, .inr (.inr rfl)⟩
    obtain ⟨mv, mc, hm, hm1⟩ : ∃ mv mc, needsOf a1 a2 a3 = (mv, mc) ∧ (a0 ≤ a1 → mc = 0 → mv = 1 → nv = 1) := by
      by_cases h : a1 < 0 ∨ 8 < a1
      · exact ⟨0, 1, by simp [needsOf, h], fun _ h => by omega⟩
      · obtain ⟨v, h1, _, h2⟩ := needs_ok (n := a1) (by omega) (by omega) a2 a3
        refine ⟨v, 0, h1, fun g _ hv => hn1.2 ?_⟩
        obtain ⟨g1, g2⟩ := h2.1 hv
        refine ⟨by omega, ?_⟩
        rcases g2 with g2 | g2 | g2
        · exact .inl (by omega)
        · exact .inr (.inl g2)
        · exact .inr (.inr g2)
    have nc : ∀ W, Calls Try.prog 26 #[.int .i64 a1, .bool a2, .bool a3] W fun e w' => e = .returned (.tuple #[.int .i64 mv, errV mc]) ∧ W = w' := needs_eq hm
    have Nn := hide nn
    have Na := hide na
    have Nb := hide nb
    have Nc := hide nc
    clear nn na nb nc hn ha hb hm hn1 ha1 hb1 hn3 ha3 hb3
    by_cases h1 : nv = 1
    · have e1 := na1 h1
      have e2 := nb1 h1
      subst h1; subst e1; subst e2
      clear na1 nb1 hm1
      by_cases hlt : a1 < a0
      all_goals
        go_enter Try.func8, Try.ntmps8
        go_wp2_with fail
        refine (Nm.out _).mono ?_
        rintro e w' ⟨rfl, rfl⟩
        go_wp2_with fail
        refine (N5.out _).mono ?_
        rintro e w' ⟨rfl, rfl⟩
        go_wp2_with fail
        refine (Nn.out _).mono ?_
        rintro e w' ⟨rfl, rfl⟩
        go_wp2_with fail
        refine (Na.out _).mono ?_
        rintro e w' ⟨rfl, rfl⟩
        go_wp2_with fail
        refine (Nb.out _).mono ?_
        rintro e w' ⟨rfl, rfl⟩
        go_wp2_with fail
        try (refine (Nc.out _).mono ?_; rintro e w' ⟨rfl, rfl⟩; go_wp2)
        all_goals go_ret
        all_goals exact ⟨rfl, Below.refl _ _⟩
    · clear na1 nb1
      have t1 : (nv == 1) = false := beq_eq_false_iff_ne.2 h1
      by_cases hlt : a1 < a0
      · clear hm1
        go_enter Try.func8, Try.ntmps8
        go_wp2_with fail
        refine (Nm.out _).mono ?_
        rintro e w' ⟨rfl, rfl⟩
        go_wp2_with fail
        refine (N5.out _).mono ?_
        rintro e w' ⟨rfl, rfl⟩
        go_wp2_with fail
        refine (Nn.out _).mono ?_
        rintro e w' ⟨rfl, rfl⟩
        go_wp2_with fail
        refine (Na.out _).mono ?_
        rintro e w' ⟨rfl, rfl⟩
        go_wp2_with fail
        refine (Nb.out _).mono ?_
        rintro e w' ⟨rfl, rfl⟩
        go_wp2
        go_ret
        exact ⟨rfl, Below.refl _ _⟩
      · have hm2 : mc = 0 → ¬ mv = 1 := fun h g => h1 (hm1 (by omega) h g)
        clear hm1
        by_cases hc : mc = 0
        · have hm3 := hm2 hc
          have t2 : (mv != 1) = true := bne_iff_ne.2 hm3
          subst hc
          clear hm2
          have Nc' : Hid (∀ W, Calls Try.prog 26 #[.int .i64 a1, .bool a2, .bool a3] W fun e w' => e = .returned (.tuple #[.int .i64 mv, .nilIface]) ∧ W = w') := Nc
          clear Nc
          go_enter Try.func8, Try.ntmps8
          go_wp2_with fail
          refine (Nm.out _).mono ?_
          rintro e w' ⟨rfl, rfl⟩
          go_wp2_with fail
          refine (N5.out _).mono ?_
          rintro e w' ⟨rfl, rfl⟩
          go_wp2_with fail
          refine (Nn.out _).mono ?_
          rintro e w' ⟨rfl, rfl⟩
          go_wp2_with fail
          refine (Na.out _).mono ?_
          rintro e w' ⟨rfl, rfl⟩
          go_wp2_with fail
          refine (Nb.out _).mono ?_
          rintro e w' ⟨rfl, rfl⟩
          go_wp2_with fail
          refine (Nc'.out _).mono ?_
          rintro e w' ⟨rfl, rfl⟩
          go_wp2
          go_ret
          exact ⟨rfl, Below.refl _ _⟩
        · clear hm2
          have t2 : (mc != 0) = true := bne_iff_ne.2 hc
          go_enter Try.func8, Try.ntmps8
          go_wp2_with fail
          refine (Nm.out _).mono ?_
          rintro e w' ⟨rfl, rfl⟩
          go_wp2_with fail
          refine (N5.out _).mono ?_
          rintro e w' ⟨rfl, rfl⟩
          go_wp2_with fail
          refine (Nn.out _).mono ?_
          rintro e w' ⟨rfl, rfl⟩
          go_wp2_with fail
          refine (Na.out _).mono ?_
          rintro e w' ⟨rfl, rfl⟩
          go_wp2_with fail
          refine (Nb.out _).mono ?_
          rintro e w' ⟨rfl, rfl⟩
          go_wp2_with fail
          refine (Nc.out _).mono ?_
          rintro e w' ⟨rfl, rfl⟩
          go_wp2
          go_ret
          exact ⟨rfl, Below.refl _ _⟩
end Go.Proofs.Ythfnjgiaimhbiaa
