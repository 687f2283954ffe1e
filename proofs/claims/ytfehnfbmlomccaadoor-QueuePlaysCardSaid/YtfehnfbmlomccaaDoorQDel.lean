/- slices.Delete at []api.Conn; queue: Drop by contract. -/
import Derived.Test.YtfehnfbmlomccaaDoorQPull
import Derived.Lib.SliceRun
namespace Go.Proofs.YtfehnfbmlomccaaDoor
open Go.RowKit

theorem news_get {zs : List (Int × Int)} {i k : Nat} (hl : zs.length = i + k + 1) : ∀ j, j < k → (flat (zs.drop (i + 1)))[j * 2]? = some (.int .i64 (zs.getD (i + 1 + j) (0, 0)).1) ∧ (flat (zs.drop (i + 1)))[j * 2 + 1]? = some (.int .i64 (zs.getD (i + 1 + j) (0, 0)).2) := by
  intro j hj
  have h := flat_get (zs.drop (i + 1)) j (by rw [List.length_drop]; omega)
  have e : (zs.drop (i + 1)).getD j (0, 0) = zs.getD (i + 1 + j) (0, 0) := by simp [List.getD, List.getElem?_drop]
  rwa [e] at h
/-- what is left of the row when element i is out -/
theorem del_row {w : World} {g off cap i k : Nat} {zs : List (Int × Int)} {vs : List Value} (hl : zs.length = i + k + 1) (h0 : zs.length ≤ 900) (hcap : i + k + 1 ≤ cap) (hm : cap ≤ maxLen) (hg : g < w.heap.size) (hp : PC w g off zs)
    (hs : ∀ t, t < cap * 2 → (w.cell? ⟨g, off + t, none⟩).isSome = true ∧ w.frozen? ⟨g, off + t, none⟩ = false) (hv : vs.length = 2) :
    QRow ((w.setCells g (off + i * 2) (flat (zs.drop (i + 1)))).setCells g (off + (i + k) * 2) vs) (.slice (some ⟨g, off, none⟩) (i + k) cap) (zs.eraseIdx i) := by
  have hnl : (flat (zs.drop (i + 1))).length = k * 2 := by rw [flat_length, List.length_drop, hl]; omega
  have hel : (zs.eraseIdx i).length = i + k := by rw [List.length_eraseIdx, if_pos (by omega), hl]; omega
  obtain ⟨W1, hW1⟩ : ∃ W1, W1 = w.setCells g (off + i * 2) (flat (zs.drop (i + 1))) := ⟨_, rfl⟩
  have c1 : ∀ p, p < i * 2 → W1.cell? ⟨g, off + p, none⟩ = w.cell? ⟨g, off + p, none⟩ := fun p hp => by rw [hW1]; exact World.cell?_setCells_out g _ _ w ⟨g, off + p, none⟩ (fun _ _ => .inl (by show off + p < off + i * 2; omega))
  have c2 : ∀ p, p < k * 2 → W1.cell? ⟨g, off + i * 2 + p, none⟩ = (flat (zs.drop (i + 1)))[p]? := fun p hp => by
    rw [hW1, World.cell?_setCells_in g _ _ w (fun j hj => by rw [hnl] at hj; have := (hs (i * 2 + j) (by omega)).1; rwa [← Nat.add_assoc] at this) p (by rw [hnl]; exact hp)]
    exact (List.getElem?_eq_getElem _).symm
  have c3 : ∀ p, i * 2 + k * 2 ≤ p → W1.cell? ⟨g, off + p, none⟩ = w.cell? ⟨g, off + p, none⟩ := fun p hp => by rw [hW1]; exact World.cell?_setCells_out g _ _ w ⟨g, off + p, none⟩ (fun _ _ => .inr (by rw [hnl]; show off + i * 2 + k * 2 ≤ off + p; omega))
  have hf1 : ∀ a, W1.frozen? a = w.frozen? a := fun a => by rw [hW1]; exact World.frozen?_setCells _ _ _ _ _
  have hsz : ∀ (us : List Value) (o : Nat) (W : World), (W.setCells g o us).heap.size = W.heap.size := by
    intro us
    induction us with
    | nil => intro o W; rfl
    | cons u us ih => intro o W; rw [World.setCells, ih]; simp
  have d1 : ∀ p, p < (i + k) * 2 → (W1.setCells g (off + (i + k) * 2) vs).cell? ⟨g, off + p, none⟩ = W1.cell? ⟨g, off + p, none⟩ := fun p hp => World.cell?_setCells_out g _ _ W1 ⟨g, off + p, none⟩ (fun _ _ => .inl (by show off + p < off + (i + k) * 2; omega))
  have hsome : ∀ t, t < cap * 2 → (W1.cell? ⟨g, off + t, none⟩).isSome = true := by
    intro t ht
    by_cases h1 : t < i * 2
    · rw [c1 t h1]; exact (hs t ht).1
    · by_cases h2 : t < i * 2 + k * 2
      · have := c2 (t - i * 2) (by omega)
        rw [show off + i * 2 + (t - i * 2) = off + t by omega] at this
        rw [this, List.getElem?_eq_getElem (by rw [hnl]; omega)]; rfl
      · rw [c3 t (by omega)]; exact (hs t ht).1
  rw [← hW1]
  refine ⟨by rw [hel]; omega, .inr ⟨g, off, cap, by rw [hel], by rw [hel]; omega, hm, by rw [hsz, hW1, hsz]; exact hg, fun j hj => ?_, fun t ht => ?_⟩⟩
  · rw [hel] at hj
    rw [d1 (j * 2) (by omega), Nat.add_assoc, d1 (j * 2 + 1) (by omega)]
    by_cases hji : j < i
    · have e : (zs.eraseIdx i).getD j (0, 0) = zs.getD j (0, 0) := by simp [List.getD, List.getElem?_eraseIdx, hji]
      rw [c1 (j * 2) (by omega), c1 (j * 2 + 1) (by omega), e, ← Nat.add_assoc]
      exact hp j (by omega)
    · have e : (zs.eraseIdx i).getD j (0, 0) = zs.getD (i + 1 + (j - i)) (0, 0) := by
        simp only [List.getD, List.getElem?_eraseIdx, if_neg hji]
        rw [show i + 1 + (j - i) = j + 1 by omega]
      have q := news_get hl (j - i) (by omega)
      have a1 := c2 ((j - i) * 2) (by omega)
      have a2 := c2 ((j - i) * 2 + 1) (by omega)
      rw [show off + i * 2 + (j - i) * 2 = off + j * 2 by omega] at a1
      rw [show off + i * 2 + ((j - i) * 2 + 1) = off + (j * 2 + 1) by omega] at a2
      rw [a1, a2, e]
      exact q
  · refine ⟨?_, by rw [World.frozen?_setCells, hf1]; exact (hs t ht).2⟩
    by_cases h1 : t < (i + k) * 2
    · rw [d1 t h1]; exact hsome t ht
    · by_cases h2 : t < (i + k) * 2 + 2
      · have := World.cell?_setCells_in g vs (off + (i + k) * 2) W1 (fun j hj => by
          rw [Nat.add_assoc]; exact hsome _ (by omega)) (t - (i + k) * 2) (by omega)
        rw [show off + (i + k) * 2 + (t - (i + k) * 2) = off + t by omega] at this
        rw [this]; rfl
      · rw [World.cell?_setCells_out g vs _ W1 ⟨g, off + t, none⟩ (fun _ _ => .inr (by rw [hv]; show off + (i + k) * 2 + 2 ≤ off + t; omega))]
        exact hsome t ht
theorem setCells_block (g : Nat) : ∀ (vs : List Value) (o : Nat) (w : World) (k : Nat), k ≠ g → (w.setCells g o vs).heap[k]? = w.heap[k]?
  | [], _, _, _, _ => rfl
  | v :: r, o, w, k, h => by rw [World.setCells, setCells_block g r _ _ k h, Below.heap_setCell _ _ _ _ h]
theorem setCells_kept {S : List Nat} {a : World} {g : Nat} (hg : g ∈ S) : ∀ (vs : List Value) (o : Nat) (w : World), Kept S a w → Kept S a (w.setCells g o vs)
  | [], _, _, h => h
  | v :: r, o, _, h => setCells_kept hg r _ _ (h.setCell (p := ⟨g, o, none⟩) (Or.inl hg) v)
set_option maxHeartbeats 4000000 in
set_option maxRecDepth 100000 in
theorem cnDelete (g off cap i k : Nat) (zs : List (Int × Int)) (w : World) (hl : zs.length = i + k + 1) (h0 : zs.length ≤ 900) (hcap : i + k + 1 ≤ cap) (hm : cap ≤ maxLen) (hg : g < w.heap.size) (hp : PC w g off zs)
    (hs : ∀ t, t < cap * 2 → (w.cell? ⟨g, off + t, none⟩).isSome = true ∧ w.frozen? ⟨g, off + t, none⟩ = false) :
    Calls Tryd.prog 46 #[.slice (some ⟨g, off, none⟩) (i + k + 1) cap, .int .i64 i, .int .i64 (i + 1 : Nat)] w fun e w' => e = .returned (.slice (some ⟨g, off, none⟩) (i + k) cap) ∧ QRow w' (.slice (some ⟨g, off, none⟩) (i + k) cap) (zs.eraseIdx i) ∧ Kept [g] w w' := by
  obtain ⟨i0, hi0, hz0, hz1, hz2⟩ := info_parts Tryd.infoCn
  have hnl : (flat (zs.drop (i + 1))).length = k * 2 := by rw [flat_length, List.length_drop, hl]; omega
  obtain ⟨news, hnews⟩ : ∃ news, news = flat (zs.drop (i + 1)) := ⟨_, rfl⟩
  obtain ⟨A, hA, hsrc⟩ : ∃ A : Addr, (if cap = i + 1 then some (⟨g, off, none⟩ : Addr) else some ⟨g, off + (i + 1) * 2, none⟩) = some A ∧ Hid (∀ t u, news[t]? = some u → w.drew.cell? (A.add t) = some u) := by
    by_cases h : cap = i + 1
    · refine ⟨⟨g, off, none⟩, by simp [h], fun t u hu => ?_⟩
      have : news.length = 0 := by rw [hnews, hnl]; omega
      rw [List.length_eq_zero_iff.1 this] at hu
      simp at hu
    · refine ⟨⟨g, off + (i + 1) * 2, none⟩, by simp [h], fun t u hu => ?_⟩
      rw [Addr.add_lit]
      have hp2 : PC w g (off + (i + 1) * 2) (zs.drop (i + 1)) := by
        intro j hj
        rw [List.length_drop] at hj
        have := hp (i + 1 + j) (by omega)
        have e : (zs.drop (i + 1)).getD j (0, 0) = zs.getD (i + 1 + j) (0, 0) := by simp [List.getD, List.getElem?_drop]
        rw [e, show off + (i + 1) * 2 + j * 2 = off + (i + 1 + j) * 2 by omega]
        exact this
      exact hp2.flat t u (by rw [← hnews]; exact hu)
  have s1 : Hid (news.length = k * 2) := by rw [hnews]; exact hnl
  have s2 : Hid (∀ u ∈ news, u.oneCell' = true) := by rw [hnews]; exact flat_oneCell _
  have s3 : Hid (∀ t, t < news.length → (w.drew.cell? ⟨g, off + i * 2 + t, none⟩).isSome = true ∧ w.drew.frozen? ⟨g, off + i * 2 + t, none⟩ = false) := by
    intro t ht
    rw [hnews, hnl] at ht
    rw [Nat.add_assoc]
    exact hs (i * 2 + t) (by omega)
  obtain ⟨W1, hW1⟩ : ∃ W1, W1 = w.drew.setCells g (off + i * 2) news := ⟨_, rfl⟩
  have hcl : ∀ ty, (Builtin.clear_ #[22] ty #[.slice (some ⟨g, off + (i + k) * 2, none⟩) 1 (cap - (i + k))]).run Tryd.prog W1 = .ok (.tuple #[]) (W1.setCells g (off + (i + k) * 2) (List.replicate (1 * 2) (.int .i64 0))) := fun ty =>
    run_clear_pairs W1 _ _ ty Tryd.underlying22 Tryd.zeroCn g (off + (i + k) * 2) 1 (cap - (i + k)) (by omega) (fun t ht => by
      rw [hW1, World.cell?_setCells_out g _ _ w.drew ⟨g, off + (i + k) * 2 + t, none⟩ (fun _ _ => .inr (by rw [hnews, hnl]; show off + i * 2 + k * 2 ≤ off + (i + k) * 2 + t; omega)), Nat.add_assoc]
      exact (hs _ (by omega)).1) (fun t ht => by rw [hW1, World.frozen?_setCells, Nat.add_assoc]; exact (hs _ (by omega)).2)
  have HF : Hid (QRow (W1.setCells g (off + (i + k) * 2) (List.replicate (1 * 2) (.int .i64 0))) (.slice (some ⟨g, off, none⟩) (i + k) cap) (zs.eraseIdx i) ∧ Kept [g] w (W1.setCells g (off + (i + k) * 2) (List.replicate (1 * 2) (.int .i64 0)))) := by
    refine ⟨?_, ?_⟩
    · rw [hW1, hnews]; exact del_row (w := w.drew) hl h0 hcap hm hg hp hs (by simp)
    · exact setCells_kept (by simp) _ _ _ (by rw [hW1]; exact setCells_kept (by simp) _ _ _ (Kept.refl _ w).drew)
  have hW : Hid (W1 = w.drew.setCells g (off + i * 2) news) := hW1
  have hic : i ≤ cap := by omega
  have hjc : i + 1 ≤ cap := by omega
  have hik : i + k ≤ cap := by omega
  have hne : ¬ cap = i + k := by omega
  have n1 : (0 : Int) ≤ (i : Int) + 1 := by omega
  have n2 : (i : Int) ≤ (i : Int) + (k : Int) := by omega
  have n3 : (0 : Int) ≤ (i : Int) + (k : Int) := by omega
  have n4 : ((i : Int) + (k : Int)).toNat = i + k := by omega
  unfold maxLen at hm
  clear hW1 hs hp hnews hnl h0 hl hg
  go_enter Tryd.func46, Tryd.ntmps46
  go_wp2_with fail
  go_region_law (refine step_append_room rfl (.tmp 22) (.tmp 25) 22 rfl 29 i0 2 Tryd.underlying22 hi0 hz1 g off i cap (by simp [Act.eval, Act.put]) A k (cap - (i + 1)) news (by simp [Act.eval, Act.put]) s1.out hsrc.out s2.out (by omega) s3.out ?_; rw [← hW.out])
  go_wp2
  go_ret
  exact ⟨rfl, HF.out⟩
end Go.Proofs.YtfehnfbmlomccaaDoor
