/- queue: Pull, All by contracts. slices.Delete at []api.Conn; queue: Drop by contract. foldref1: Conn by contract. -/
import Derived.Test.YtkkmlolnikomdaaGreatDoorQueue
import Derived.Lib.SliceRun
import Derived.Test.YtkkmlolnikomdaaGreatDoorServerPlaysProofM3
import Derived.Handy
namespace Go.Proofs.YtkkmlolnikomdaaGreatDoor
open Go.RowKit

theorem qrow_cons {w : World} {v : Value} {x : Int × Int} {l : List (Int × Int)} (h : QRow w v (x :: l)) : ∃ g off cap, v = .slice (some ⟨g, off, none⟩) (l.length + 1) cap ∧ l.length + 1 ≤ cap ∧ cap ≤ maxLen ∧ g < w.heap.size ∧
    w.cell? ⟨g, off, none⟩ = some (.int .i64 x.1) ∧ w.cell? ⟨g, off + 1, none⟩ = some (.int .i64 x.2) ∧
    (cap ≠ 1 → QRow w (.slice (some ⟨g, off + 2, none⟩) l.length (cap - 1)) l) ∧ (cap = 1 → l = [] ∧ QRow w (.slice (some ⟨g, off, none⟩) 0 0) l) := by
  obtain ⟨h0, ⟨h1, _⟩ | ⟨g, off, cap, rfl, h2, h3, h4, h5, h6⟩⟩ := h
  · cases h1
  · have hl : (x :: l).length = l.length + 1 := rfl
    rw [hl] at h0 h2
    have hp := h5 0 (by simp)
    refine ⟨g, off, cap, rfl, h2, h3, h4, by simpa using hp.1, by simpa using hp.2, fun hc => ?_, fun hc => ?_⟩
    · refine ⟨by omega, .inr ⟨g, off + 2, cap - 1, rfl, by omega, by omega, h4, fun j hj => ?_, fun t ht => ?_⟩⟩
      · have := h5 (j + 1) (by rw [hl]; omega)
        rw [show off + (j + 1) * 2 = off + 2 + j * 2 by omega] at this
        simpa using this
      · have := h6 (t + 2) (by omega)
        rwa [show off + (t + 2) = off + 2 + t by omega] at this
    · subst hc
      have hl0 : l = [] := List.eq_nil_of_length_eq_zero (by omega)
      subst hl0
      exact ⟨rfl, by simp, .inr ⟨g, off, 0, rfl, Nat.le_refl _, by unfold maxLen; omega, h4, fun j hj => by simp at hj, fun t ht => by omega⟩⟩
theorem qPull_none (b : Nat) (v : Value) (w : World) (h : QAt 100 w b v []) :
    Calls Tryz.prog 32 #[.pointer (some ⟨b, 0, none⟩)] w fun e w' => e = .returned (.tuple #[.agg #[.int .i64 0, .int .i64 0], .iface 71 (.int .i64 5)]) ∧ Below w.heap.size w w' := by
  obtain ⟨a, c, rfl⟩ := qrow_form h.2.1
  have c0 := h.1.cell (i := 0) rfl
  have y0 := h.1.lt
  simp only [List.length_nil] at c0
  clear h
  go_enter Tryz.func32, Tryz.ntmps32
  go_wp2
  exact bodyPost_ret (v := .tuple #[.agg #[.int .i64 0, .int .i64 0], .iface 71 (.int .i64 5)]) (by simp [results, Tryz.results32, go_sem, *]) rfl ⟨rfl, by go_grown⟩
set_option maxHeartbeats 4000000 in
theorem qPull_one {x : Int × Int} {l : List (Int × Int)} (b : Nat) (v : Value) (w : World) (h : QAt 100 w b v (x :: l)) :
    Calls Tryz.prog 32 #[.pointer (some ⟨b, 0, none⟩)] w fun e w' => e = .returned (.tuple #[.agg #[.int .i64 x.1, .int .i64 x.2], .nilIface]) ∧ ∃ v', QAt 100 w' b v' l ∧ rowOf w v v' ∧ Kept (qS b v) w w' := by
  obtain ⟨g, off, cap, rfl, h2, h3, h4, q0, q1, r1, r2⟩ := qrow_cons h.2.1
  obtain ⟨x1, x2⟩ := x
  simp only at q0 q1
  have HO := hide h.1
  have hne : g ≠ b := fun e => h.2.2 (by rw [← e]; rfl)
  have c0 := h.1.cell (i := 0) rfl
  have f0 := h.1.free 0
  have y0 := h.1.lt
  have R1 := hide r1
  have R2 := hide r2
  unfold maxLen at h3
  obtain ⟨m, hm⟩ : ∃ m, m = l.length := ⟨_, rfl⟩
  rw [← hm] at c0 h2
  have HM := hide hm
  clear h r1 r2 hm
  have hK : ∀ (W : World) (u : Value), Below w.heap.size w W → Kept (qS b (.slice (some ⟨g, off, none⟩) (l.length + 1) cap)) w (W.setCell ⟨b, 0, none⟩ u) := fun W u hW => (Kept.of_below hW _).setCell (p := ⟨b, 0, none⟩) (Or.inl (mem_qS.2 (Or.inl rfl))) u
  have HKK := hide hK
  have hQ : ∀ (W : World) (u : Value), Below w.heap.size w W → QRow w u l → (u.ownBlock = some g) → QAt 100 (W.setCell ⟨b, 0, none⟩ u) b u l := fun W u hW hq hu =>
    ⟨(HO.out.below hW).set 0 u, (hq.below hW).setOther (fun g' hg' e => by rw [hu] at hg'; exact hne ((Option.some.inj hg').trans e)) u, fun e => by rw [hu] at e; exact hne (Option.some.inj e)⟩
  have HQQ := hide hQ
  clear hK hQ
  by_cases hc : cap = 1
  · subst hc
    obtain rfl : m = 0 := by omega
    go_enter Tryz.func32, Tryz.ntmps32
    go_wp2
    obtain ⟨rfl, hq⟩ := R2.out (by first | rfl | trivial)
    exact bodyPost_ret (v := .tuple #[.agg #[.int .i64 x1, .int .i64 x2], .nilIface]) (by simp [results, Tryz.results32, go_sem, *]) rfl ⟨rfl, _, QAt.below (HQQ.out w _ (Below.refl _ _) hq rfl) (by go_grown), .inl rfl, ((HKK.out w _ (Below.refl _ _)).alloc _).alloc _⟩
  · have hc2 : (cap == 1) = false := beq_eq_false_iff_ne.2 hc
    have hc3 : 1 ≤ cap := by omega
    go_enter Tryz.func32, Tryz.ntmps32
    go_wp2
    have hq := R1.out hc
    rw [← HM.out] at hq
    exact bodyPost_ret (v := .tuple #[.agg #[.int .i64 x1, .int .i64 x2], .nilIface]) (by simp [results, Tryz.results32, go_sem, *]) rfl ⟨rfl, _, QAt.below (HQQ.out w _ (Below.refl _ _) hq rfl) (by go_grown), .inl rfl, ((HKK.out w _ (Below.refl _ _)).alloc _).alloc _⟩
set_option maxHeartbeats 2000000 in
theorem cnClone_some (ad : Addr) (c : Nat) (zs : List (Int × Int)) (w : World) (hl : zs.length ≤ 1000) (hc : ∀ j u, (flat zs)[j]? = some u → w.cell? (ad.add j) = some u) :
    Calls Tryz.prog 63 #[.slice (some ad) zs.length c] w fun e w' => ∃ v', e = .returned v' ∧ w'.ownsRow w.heap.size 55 2 v' zs.length (flat zs) ∧ Below w.heap.size w w' := by
  have q22 : ∀ (w : World) (a : Option Addr) (n c n' c' : Nat), (binOp .eql 45 (.slice a n c) (.slice none n' c')).run Tryz.prog w = .ok (.bool a.isNone) w := fun w a n c n' c' => Lib.run_eql_slice_nil w _ _ a n c n' c' Tryz.underlying45
  obtain ⟨i0, hi, hz0, hz1, hz2⟩ := info_parts Tryz.infoCn
  have A := hide hc
  have HL := hide (flat_length zs)
  have H1 := hide (flat_oneCell zs)
  obtain ⟨n, hn⟩ : ∃ n, n = zs.length := ⟨_, rfl⟩
  rw [← hn] at HL hl ⊢
  clear hc hn
  go_enter Tryz.func63, Tryz.ntmps63
  go_wp2_with (at_builtin; refine wpList_append_own _ rfl _ _ 45 rfl w.heap.size 55 i0 _ 2 16 Tryz.underlying45 hi hz0 hz1 hz2 rfl (by decide) _ _ _ rfl (World.ownsRow_made w #[] 0 (Nat.le_refl _) (Nat.zero_le _) (by simp)) ad n c (flat zs) rfl ?qc1 ?qc2 ?qc3 ?qc4 ?qc5 ?qc6 ?_)
  case qc1 => exact HL.out
  case qc2 =>
    intro j u hj
    exact Lib.cell?_alloc_some _ (A.out j u hj)
  case qc3 => exact H1.out
  case qc4 => unfold maxLen; omega
  case qc5 => omega
  case qc6 => simp
  intro v' w1 hown hgrow hnil
  go_wp2
  go_ret
  refine ⟨v', rfl, by simpa using hown, ?_⟩
  exact ((Below.refl _ w).alloc (Nat.le_refl _) _).grown hgrow (by simp) (by intro k hk; simp [Value.ownBlock] at hk; omega)
theorem cnClone_none (n c : Nat) (w : World) :
    Calls Tryz.prog 63 #[.slice none n c] w fun e w' => e = .returned (.slice none 0 0) ∧ w = w' := by
  have q22 : ∀ (w : World) (a : Option Addr) (n c n' c' : Nat), (binOp .eql 45 (.slice a n c) (.slice none n' c')).run Tryz.prog w = .ok (.bool a.isNone) w := fun w a n c n' c' => Lib.run_eql_slice_nil w _ _ a n c n' c' Tryz.underlying45
  go_enter Tryz.func63, Tryz.ntmps63
  go_wp2
  go_ret
  exact ⟨rfl, rfl⟩
theorem cnClone (v : Value) (zs : List (Int × Int)) (w : World) (hv : PSl w v zs) :
    Calls Tryz.prog 63 #[v] w fun e w' => ∃ v', e = .returned v' ∧ w'.ownsRow w.heap.size 55 2 v' zs.length (flat zs) ∧ Below w.heap.size w w' := by
  obtain ⟨hl, ⟨rfl, a, c, rfl⟩ | ⟨b, off, c, rfl, hc, hb, hpc⟩⟩ := hv
  · cases a with
    | none => exact (cnClone_none 0 c w).mono fun e w' ⟨he, hw⟩ => ⟨_, he, by rw [← hw]; exact World.ownsRow_nil _ _ _ _, by rw [← hw]; exact Below.refl _ _⟩
    | some ad => exact cnClone_some ad c [] w (by simp) (fun j u hj => by simp [flat] at hj)
  · refine cnClone_some ⟨b, off, none⟩ c zs w hl (fun j u hj => ?_)
    have hj2 : j < zs.length * 2 := by
      rcases Nat.lt_or_ge j (zs.length * 2) with h | h
      · exact h
      · rw [List.getElem?_eq_none (by rw [flat_length]; exact h)] at hj; cases hj
    have hf := flat_get zs (j / 2) (by omega)
    have hp := hpc (j / 2) (by omega)
    rw [Addr.add_lit]
    rcases Nat.mod_two_eq_zero_or_one j with h | h
    · have e : j = j / 2 * 2 := by omega
      rw [e] at hj ⊢
      rw [← hj, hf.1]; exact hp.1
    · have e : j = j / 2 * 2 + 1 := by omega
      rw [e] at hj ⊢
      rw [← hj, hf.2, ← Nat.add_assoc]; exact hp.2
theorem qAll (b : Nat) (v : Value) (zs : List (Int × Int)) (w : World) (h : QAt 100 w b v zs) :
    Calls Tryz.prog 39 #[.pointer (some ⟨b, 0, none⟩)] w fun e w' => ∃ v', e = .returned v' ∧ PSl w' v' zs ∧ Below w.heap.size w w' := by
  have c0 := h.1.cell (i := 0) rfl
  have CL := hide (cnClone v zs w h.2.1.psl)
  have hl := h.2.1.1
  clear h
  go_enter Tryz.func39, Tryz.ntmps39
  go_wp2_with fail
  refine CL.out.mono ?_
  rintro e w1 ⟨v', rfl, hown, hb⟩
  have HP := hide (own_psl hown (by omega))
  clear hown
  go_wp2
  go_ret
  exact ⟨v', rfl, HP.out, hb⟩
end Go.Proofs.YtkkmlolnikomdaaGreatDoor

namespace Go.Proofs.YtkkmlolnikomdaaGreatDoor
open Go.RowKit

theorem news_get {zs : List (Int × Int)} {i k : Nat} (hl : zs.length = i + k + 1) : ∀ j, j < k → (flat (zs.drop (i + 1)))[j * 2]? = some (.int .i64 (zs.getD (i + 1 + j) (0, 0)).1) ∧ (flat (zs.drop (i + 1)))[j * 2 + 1]? = some (.int .i64 (zs.getD (i + 1 + j) (0, 0)).2) := by
  intro j hj
  have h := flat_get (zs.drop (i + 1)) j (by rw [List.length_drop]; omega)
  have e : (zs.drop (i + 1)).getD j (0, 0) = zs.getD (i + 1 + j) (0, 0) := by simp [List.getD, List.getElem?_drop]
  rwa [e] at h
/-- what is left of the row when element i is out -/
theorem del_row {w : World} {g off cap i k : Nat} {zs : List (Int × Int)} {vs : List Value} (hl : zs.length = i + k + 1) (h0 : zs.length ≤ 900) (hcap : i + k + 1 ≤ cap) (hm : cap ≤ maxLen) (hg : g < w.heap.size) (hp : PC w g off zs)
    (hs : ∀ t, t < cap * 2 → (w.cell? ⟨g, off + t, none⟩).isSome = true ∧ w.frozen? ⟨g, off + t, none⟩ = false) (hv : vs.length = 2) :
    QRow ((w.setCells g (off + i * 2) (flat (zs.drop (i + 1)))).setCells g (off + (i + k) * 2) vs) (.slice (some ⟨g, off, none⟩) (i + k) cap) (zs.eraseIdx i) := by
  have hnl : (flat (zs.drop (i + 1))).length = k * 2 := by rw [flat_length, List.length_drop, hl]; omega
  have hel : (zs.eraseIdx i).length = i + k := by rw [List.length_eraseIdx, if_pos (by omega), hl]; omega
  obtain ⟨W1, hW1⟩ : ∃ W1, W1 = w.setCells g (off + i * 2) (flat (zs.drop (i + 1))) := ⟨_, rfl⟩
  have c1 : ∀ p, p < i * 2 → W1.cell? ⟨g, off + p, none⟩ = w.cell? ⟨g, off + p, none⟩ := fun p hp => by rw [hW1]; exact World.cell?_setCells_out g _ _ w ⟨g, off + p, none⟩ (fun _ _ => .inl (by show off + p < off + i * 2; omega))
  have c2 : ∀ p, p < k * 2 → W1.cell? ⟨g, off + i * 2 + p, none⟩ = (flat (zs.drop (i + 1)))[p]? := fun p hp => by
    rw [hW1, World.cell?_setCells_in g _ _ w (fun j hj => by rw [hnl] at hj; have := (hs (i * 2 + j) (by omega)).1; rwa [← Nat.add_assoc] at this) p (by rw [hnl]; exact hp)]
    exact (List.getElem?_eq_getElem _).symm
  have c3 : ∀ p, i * 2 + k * 2 ≤ p → W1.cell? ⟨g, off + p, none⟩ = w.cell? ⟨g, off + p, none⟩ := fun p hp => by rw [hW1]; exact World.cell?_setCells_out g _ _ w ⟨g, off + p, none⟩ (fun _ _ => .inr (by rw [hnl]; show off + i * 2 + k * 2 ≤ off + p; omega))
  have hf1 : ∀ a, W1.frozen? a = w.frozen? a := fun a => by rw [hW1]; exact World.frozen?_setCells _ _ _ _ _
  have hsz : ∀ (us : List Value) (o : Nat) (W : World), (W.setCells g o us).heap.size = W.heap.size := by
    intro us
    induction us with
    | nil => intro o W; rfl
    | cons u us ih => intro o W; rw [World.setCells, ih]; simp
  have d1 : ∀ p, p < (i + k) * 2 → (W1.setCells g (off + (i + k) * 2) vs).cell? ⟨g, off + p, none⟩ = W1.cell? ⟨g, off + p, none⟩ := fun p hp => World.cell?_setCells_out g _ _ W1 ⟨g, off + p, none⟩ (fun _ _ => .inl (by show off + p < off + (i + k) * 2; omega))
  have hsome : ∀ t, t < cap * 2 → (W1.cell? ⟨g, off + t, none⟩).isSome = true := by
    intro t ht
    by_cases h1 : t < i * 2
    · rw [c1 t h1]; exact (hs t ht).1
    · by_cases h2 : t < i * 2 + k * 2
      · have := c2 (t - i * 2) (by omega)
        rw [show off + i * 2 + (t - i * 2) = off + t by omega] at this
        rw [this, List.getElem?_eq_getElem (by rw [hnl]; omega)]; rfl
      · rw [c3 t (by omega)]; exact (hs t ht).1
  rw [← hW1]
  refine ⟨by rw [hel]; omega, .inr ⟨g, off, cap, by rw [hel], by rw [hel]; omega, hm, by rw [hsz, hW1, hsz]; exact hg, fun j hj => ?_, fun t ht => ?_⟩⟩
  · rw [hel] at hj
    rw [d1 (j * 2) (by omega), Nat.add_assoc, d1 (j * 2 + 1) (by omega)]
    by_cases hji : j < i
    · have e : (zs.eraseIdx i).getD j (0, 0) = zs.getD j (0, 0) := by simp [List.getD, List.getElem?_eraseIdx, hji]
      rw [c1 (j * 2) (by omega), c1 (j * 2 + 1) (by omega), e, ← Nat.add_assoc]
      exact hp j (by omega)
    · have e : (zs.eraseIdx i).getD j (0, 0) = zs.getD (i + 1 + (j - i)) (0, 0) := by
        simp only [List.getD, List.getElem?_eraseIdx, if_neg hji]
        rw [show i + 1 + (j - i) = j + 1 by omega]
      have q := news_get hl (j - i) (by omega)
      have a1 := c2 ((j - i) * 2) (by omega)
      have a2 := c2 ((j - i) * 2 + 1) (by omega)
      rw [show off + i * 2 + (j - i) * 2 = off + j * 2 by omega] at a1
      rw [show off + i * 2 + ((j - i) * 2 + 1) = off + (j * 2 + 1) by omega] at a2
      rw [a1, a2, e]
      exact q
  · refine ⟨?_, by rw [World.frozen?_setCells, hf1]; exact (hs t ht).2⟩
    by_cases h1 : t < (i + k) * 2
    · rw [d1 t h1]; exact hsome t ht
    · by_cases h2 : t < (i + k) * 2 + 2
      · have := World.cell?_setCells_in g vs (off + (i + k) * 2) W1 (fun j hj => by
          rw [Nat.add_assoc]; exact hsome _ (by omega)) (t - (i + k) * 2) (by omega)
        rw [show off + (i + k) * 2 + (t - (i + k) * 2) = off + t by omega] at this
        rw [this]; rfl
      · rw [World.cell?_setCells_out g vs _ W1 ⟨g, off + t, none⟩ (fun _ _ => .inr (by rw [hv]; show off + (i + k) * 2 + 2 ≤ off + t; omega))]
        exact hsome t ht
theorem setCells_block (g : Nat) : ∀ (vs : List Value) (o : Nat) (w : World) (k : Nat), k ≠ g → (w.setCells g o vs).heap[k]? = w.heap[k]?
  | [], _, _, _, _ => rfl
  | v :: r, o, w, k, h => by rw [World.setCells, setCells_block g r _ _ k h, Below.heap_setCell _ _ _ _ h]
theorem setCells_kept {S : List Nat} {a : World} {g : Nat} (hg : g ∈ S) : ∀ (vs : List Value) (o : Nat) (w : World), Kept S a w → Kept S a (w.setCells g o vs)
  | [], _, _, h => h
  | v :: r, o, _, h => setCells_kept hg r _ _ (h.setCell (p := ⟨g, o, none⟩) (Or.inl hg) v)
end Go.Proofs.YtkkmlolnikomdaaGreatDoor

namespace Go.Proofs.YtkkmlolnikomdaaGreatDoor
open Go.RowKit

theorem rConn (s n : Int) (w : World) : Calls Tryz.prog 53 #[.agg #[.int .i64 s, .int .i64 n]] w fun e w' => e = .returned (.bool (connB s n)) ∧ Below w.heap.size w w' := by
  have hc : s < 0 ∨ (0 ≤ s ∧ 16 ≤ s) ∨ (0 ≤ s ∧ s < 16 ∧ n < 0) ∨ (0 ≤ s ∧ s < 16 ∧ 0 ≤ n ∧ 4096 ≤ n) ∨ (0 ≤ s ∧ s < 16 ∧ 0 ≤ n ∧ n < 4096) := by omega
  rcases hc with h | ⟨h1, h2⟩ | ⟨h1, h2, h3⟩ | ⟨h1, h2, h3, h4⟩ | ⟨h1, h2, h3, h4⟩
  all_goals
    go_enter Tryz.func53, Tryz.ntmps53
    go_wp2
    go_ret
    exact ⟨retB (by first | exact (decide_eq_true (by omega)).symm | exact (decide_eq_false (by omega)).symm | (simp only [connB, decide_eq_decide]; omega)), by go_grown⟩
theorem rConn_eq {s n : Int} {v : Bool} (h : connB s n = v) (w : World) : Calls Tryz.prog 53 #[.agg #[.int .i64 s, .int .i64 n]] w fun e w' => e = .returned (.bool v) ∧ Below w.heap.size w w' := by
  have g := rConn s n w
  rwa [h] at g

end Go.Proofs.YtkkmlolnikomdaaGreatDoor
