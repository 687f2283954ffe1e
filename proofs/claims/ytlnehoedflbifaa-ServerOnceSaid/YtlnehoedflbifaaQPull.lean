/- queue: Pull, All by contracts. -/
import Derived.Test.YtlnehoedflbifaaQueue
namespace Go.Proofs.Ytlnehoedflbifaa
open Go.RowKit

theorem qrow_cons {w : World} {v : Value} {x : Int × Int} {l : List (Int × Int)} (h : QRow w v (x :: l)) : ∃ g off cap, v = .slice (some ⟨g, off, none⟩) (l.length + 1) cap ∧ l.length + 1 ≤ cap ∧ cap ≤ maxLen ∧ g < w.heap.size ∧
    w.cell? ⟨g, off, none⟩ = some (.int .i64 x.1) ∧ w.cell? ⟨g, off + 1, none⟩ = some (.int .i64 x.2) ∧
    (cap ≠ 1 → QRow w (.slice (some ⟨g, off + 2, none⟩) l.length (cap - 1)) l) ∧ (cap = 1 → l = [] ∧ QRow w (.slice (some ⟨g, off, none⟩) 0 0) l) := by
  obtain ⟨h0, ⟨h1, _⟩ | ⟨g, off, cap, rfl, h2, h3, h4, h5, h6⟩⟩ := h
  · cases h1
  · have hl : (x :: l).length = l.length + 1 := rfl
    rw [hl] at h0 h2
    have hp := h5 0 (by simp)
    refine ⟨g, off, cap, rfl, h2, h3, h4, by simpa using hp.1, by simpa using hp.2, fun hc => ?_, fun hc => ?_⟩
    · refine ⟨by omega, .inr ⟨g, off + 2, cap - 1, rfl, by omega, by omega, h4, fun j hj => ?_, fun t ht => ?_⟩⟩
      · have := h5 (j + 1) (by rw [hl]; omega)
        rw [show off + (j + 1) * 2 = off + 2 + j * 2 by omega] at this
        simpa using this
      · have := h6 (t + 2) (by omega)
        rwa [show off + (t + 2) = off + 2 + t by omega] at this
    · subst hc
      have hl0 : l = [] := List.eq_nil_of_length_eq_zero (by omega)
      subst hl0
      exact ⟨rfl, by simp, .inr ⟨g, off, 0, rfl, Nat.le_refl _, by unfold maxLen; omega, h4, fun j hj => by simp at hj, fun t ht => by omega⟩⟩
theorem qPull_none (b : Nat) (v : Value) (w : World) (h : QAt 75 w b v []) :
    Calls Try.prog 24 #[.pointer (some ⟨b, 0, none⟩)] w fun e w' => e = .returned (.tuple #[.agg #[.int .i64 0, .int .i64 0], .iface 53 (.int .i64 5)]) ∧ Below w.heap.size w w' := by
  obtain ⟨a, c, rfl⟩ := qrow_form h.2.1
  have c0 := h.1.cell (i := 0) rfl
  have y0 := h.1.lt
  simp only [List.length_nil] at c0
  clear h
  go_enter Try.func24, Try.ntmps24
  go_wp2
  exact bodyPost_ret (v := .tuple #[.agg #[.int .i64 0, .int .i64 0], .iface 53 (.int .i64 5)]) (by simp [results, Try.results24, go_sem, *]) rfl ⟨rfl, by go_grown⟩
set_option maxHeartbeats 4000000 in
theorem qPull_one {x : Int × Int} {l : List (Int × Int)} (b : Nat) (v : Value) (w : World) (h : QAt 75 w b v (x :: l)) :
    Calls Try.prog 24 #[.pointer (some ⟨b, 0, none⟩)] w fun e w' => e = .returned (.tuple #[.agg #[.int .i64 x.1, .int .i64 x.2], .nilIface]) ∧ ∃ v', QAt 75 w' b v' l ∧ rowOf w v v' ∧ Kept (qS b v) w w' := by
  obtain ⟨g, off, cap, rfl, h2, h3, h4, q0, q1, r1, r2⟩ := qrow_cons h.2.1
  obtain ⟨x1, x2⟩ := x
  simp only at q0 q1
  have HO := hide h.1
  have hne : g ≠ b := fun e => h.2.2 (by rw [← e]; rfl)
  have c0 := h.1.cell (i := 0) rfl
  have f0 := h.1.free 0
  have y0 := h.1.lt
  have R1 := hide r1
  have R2 := hide r2
  unfold maxLen at h3
  obtain ⟨m, hm⟩ : ∃ m, m = l.length := ⟨_, rfl⟩
  rw [← hm] at c0 h2
  have HM := hide hm
  clear h r1 r2 hm
  have hK : ∀ (W : World) (u : Value), Below w.heap.size w W → Kept (qS b (.slice (some ⟨g, off, none⟩) (l.length + 1) cap)) w (W.setCell ⟨b, 0, none⟩ u) := fun W u hW => (Kept.of_below hW _).setCell (p := ⟨b, 0, none⟩) (Or.inl (mem_qS.2 (Or.inl rfl))) u
  have HKK := hide hK
  have hQ : ∀ (W : World) (u : Value), Below w.heap.size w W → QRow w u l → (u.ownBlock = some g) → QAt 75 (W.setCell ⟨b, 0, none⟩ u) b u l := fun W u hW hq hu =>
    ⟨(HO.out.below hW).set 0 u, (hq.below hW).setOther (fun g' hg' e => by rw [hu] at hg'; exact hne ((Option.some.inj hg').trans e)) u, fun e => by rw [hu] at e; exact hne (Option.some.inj e)⟩
  have HQQ := hide hQ
  clear hK hQ
  by_cases hc : cap = 1
  · subst hc
    obtain rfl : m = 0 := by omega
    go_enter Try.func24, Try.ntmps24
    go_wp2
    obtain ⟨rfl, hq⟩ := R2.out (by first | rfl | trivial)
    exact bodyPost_ret (v := .tuple #[.agg #[.int .i64 x1, .int .i64 x2], .nilIface]) (by simp [results, Try.results24, go_sem, *]) rfl ⟨rfl, _, QAt.below (HQQ.out w _ (Below.refl _ _) hq rfl) (by go_grown), .inl rfl, ((HKK.out w _ (Below.refl _ _)).alloc _).alloc _⟩
  · have hc2 : (cap == 1) = false := beq_eq_false_iff_ne.2 hc
    have hc3 : 1 ≤ cap := by omega
    go_enter Try.func24, Try.ntmps24
    go_wp2
    have hq := R1.out hc
    rw [← HM.out] at hq
    exact bodyPost_ret (v := .tuple #[.agg #[.int .i64 x1, .int .i64 x2], .nilIface]) (by simp [results, Try.results24, go_sem, *]) rfl ⟨rfl, _, QAt.below (HQQ.out w _ (Below.refl _ _) hq rfl) (by go_grown), .inl rfl, ((HKK.out w _ (Below.refl _ _)).alloc _).alloc _⟩
set_option maxHeartbeats 2000000 in
theorem cnClone_some (ad : Addr) (c : Nat) (zs : List (Int × Int)) (w : World) (hl : zs.length ≤ 1000) (hc : ∀ j u, (flat zs)[j]? = some u → w.cell? (ad.add j) = some u) :
    Calls Try.prog 47 #[.slice (some ad) zs.length c] w fun e w' => ∃ v', e = .returned v' ∧ w'.ownsRow w.heap.size 35 2 v' zs.length (flat zs) ∧ Below w.heap.size w w' := by
  have q22 : ∀ (w : World) (a : Option Addr) (n c n' c' : Nat), (binOp .eql 73 (.slice a n c) (.slice none n' c')).run Try.prog w = .ok (.bool a.isNone) w := fun w a n c n' c' => Lib.run_eql_slice_nil w _ _ a n c n' c' Try.underlying73
  obtain ⟨i0, hi, hz0, hz1, hz2⟩ := info_parts Try.infoCn
  have A := hide hc
  have HL := hide (flat_length zs)
  have H1 := hide (flat_oneCell zs)
  obtain ⟨n, hn⟩ : ∃ n, n = zs.length := ⟨_, rfl⟩
  rw [← hn] at HL hl ⊢
  clear hc hn
  go_enter Try.func47, Try.ntmps47
  go_wp2_with (at_builtin; refine wpList_append_own _ rfl _ _ 73 rfl w.heap.size 35 i0 _ 2 16 Try.underlying73 hi hz0 hz1 hz2 rfl (by decide) _ _ _ rfl (World.ownsRow_made w #[] 0 (Nat.le_refl _) (Nat.zero_le _) (by simp)) ad n c (flat zs) rfl ?qc1 ?qc2 ?qc3 ?qc4 ?qc5 ?qc6 ?_)
  case qc1 => exact HL.out
  case qc2 =>
    intro j u hj
    exact Lib.cell?_alloc_some _ (A.out j u hj)
  case qc3 => exact H1.out
  case qc4 => unfold maxLen; omega
  case qc5 => omega
  case qc6 => simp
  intro v' w1 hown hgrow hnil
  go_wp2
  go_ret
  refine ⟨v', rfl, by simpa using hown, ?_⟩
  exact ((Below.refl _ w).alloc (Nat.le_refl _) _).grown hgrow (by simp) (by intro k hk; simp [Value.ownBlock] at hk; omega)
theorem cnClone_none (n c : Nat) (w : World) :
    Calls Try.prog 47 #[.slice none n c] w fun e w' => e = .returned (.slice none 0 0) ∧ w = w' := by
  have q22 : ∀ (w : World) (a : Option Addr) (n c n' c' : Nat), (binOp .eql 73 (.slice a n c) (.slice none n' c')).run Try.prog w = .ok (.bool a.isNone) w := fun w a n c n' c' => Lib.run_eql_slice_nil w _ _ a n c n' c' Try.underlying73
  go_enter Try.func47, Try.ntmps47
  go_wp2
  go_ret
  exact ⟨rfl, rfl⟩
theorem cnClone (v : Value) (zs : List (Int × Int)) (w : World) (hv : PSl w v zs) :
    Calls Try.prog 47 #[v] w fun e w' => ∃ v', e = .returned v' ∧ w'.ownsRow w.heap.size 35 2 v' zs.length (flat zs) ∧ Below w.heap.size w w' := by
  obtain ⟨hl, ⟨rfl, a, c, rfl⟩ | ⟨b, off, c, rfl, hc, hb, hpc⟩⟩ := hv
  · cases a with
    | none => exact (cnClone_none 0 c w).mono fun e w' ⟨he, hw⟩ => ⟨_, he, by rw [← hw]; exact World.ownsRow_nil _ _ _ _, by rw [← hw]; exact Below.refl _ _⟩
    | some ad => exact cnClone_some ad c [] w (by simp) (fun j u hj => by simp [flat] at hj)
  · refine cnClone_some ⟨b, off, none⟩ c zs w hl (fun j u hj => ?_)
    have hj2 : j < zs.length * 2 := by
      rcases Nat.lt_or_ge j (zs.length * 2) with h | h
      · exact h
      · rw [List.getElem?_eq_none (by rw [flat_length]; exact h)] at hj; cases hj
    have hf := flat_get zs (j / 2) (by omega)
    have hp := hpc (j / 2) (by omega)
    rw [Addr.add_lit]
    rcases Nat.mod_two_eq_zero_or_one j with h | h
    · have e : j = j / 2 * 2 := by omega
      rw [e] at hj ⊢
      rw [← hj, hf.1]; exact hp.1
    · have e : j = j / 2 * 2 + 1 := by omega
      rw [e] at hj ⊢
      rw [← hj, hf.2, ← Nat.add_assoc]; exact hp.2
theorem qAll (b : Nat) (v : Value) (zs : List (Int × Int)) (w : World) (h : QAt 75 w b v zs) :
    Calls Try.prog 36 #[.pointer (some ⟨b, 0, none⟩)] w fun e w' => ∃ v', e = .returned v' ∧ PSl w' v' zs ∧ Below w.heap.size w w' := by
  have c0 := h.1.cell (i := 0) rfl
  have CL := hide (cnClone v zs w h.2.1.psl)
  have hl := h.2.1.1
  clear h
  go_enter Try.func36, Try.ntmps36
  go_wp2_with fail
  refine CL.out.mono ?_
  rintro e w1 ⟨v', rfl, hown, hb⟩
  have HP := hide (own_psl hown (by omega))
  clear hown
  go_wp2
  go_ret
  exact ⟨v', rfl, HP.out, hb⟩
end Go.Proofs.Ytlnehoedflbifaa
