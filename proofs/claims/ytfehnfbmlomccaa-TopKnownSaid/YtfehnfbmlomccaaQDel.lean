/- slices.Delete at []api.Conn; queue: Drop by contract. -/
import Derived.Test.YtfehnfbmlomccaaQPull
import Derived.Lib.SliceRun
namespace Go.Proofs.Ytfehnfbmlomccaa
open Go.RowKit

theorem news_get {zs : List (Int × Int)} {i k : Nat} (hl : zs.length = i + k + 1) : ∀ j, j < k → (flat (zs.drop (i + 1)))[j * 2]? = some (.int .i64 (zs.getD (i + 1 + j) (0, 0)).1) ∧ (flat (zs.drop (i + 1)))[j * 2 + 1]? = some (.int .i64 (zs.getD (i + 1 + j) (0, 0)).2) := by
  intro j hj
  have h := flat_get (zs.drop (i + 1)) j (by rw [List.length_drop]; omega)
  have e : (zs.drop (i + 1)).getD j (0, 0) = zs.getD (i + 1 + j) (0, 0) := by simp [List.getD, List.getElem?_drop]
  rwa [e] at h
/-- what is left of the row when element i is out -/
theorem del_row {w : World} {g off cap i k : Nat} {zs : List (Int × Int)} {vs : List Value} (hl : zs.length = i + k + 1) (h0 : zs.length ≤ 900) (hcap : i + k + 1 ≤ cap) (hm : cap ≤ maxLen) (hg : g < w.heap.size) (hp : PC w g off zs)
    (hs : ∀ t, t < cap * 2 → (w.cell? ⟨g, off + t, none⟩).isSome = true ∧ w.frozen? ⟨g, off + t, none⟩ = false) (hv : vs.length = 2) :
    QRow ((w.setCells g (off + i * 2) (flat (zs.drop (i + 1)))).setCells g (off + (i + k) * 2) vs) (.slice (some ⟨g, off, none⟩) (i + k) cap) (zs.eraseIdx i) := by
  have hnl : (flat (zs.drop (i + 1))).length = k * 2 := by rw [flat_length, List.length_drop, hl]; omega
  have hel : (zs.eraseIdx i).length = i + k := by rw [List.length_eraseIdx, if_pos (by omega), hl]; omega
  obtain ⟨W1, hW1⟩ : ∃ W1, W1 = w.setCells g (off + i * 2) (flat (zs.drop (i + 1))) := ⟨_, rfl⟩
  have c1 : ∀ p, p < i * 2 → W1.cell? ⟨g, off + p, none⟩ = w.cell? ⟨g, off + p, none⟩ := fun p hp => by rw [hW1]; exact World.cell?_setCells_out g _ _ w ⟨g, off + p, none⟩ (fun _ _ => .inl (by show off + p < off + i * 2; omega))
  have c2 : ∀ p, p < k * 2 → W1.cell? ⟨g, off + i * 2 + p, none⟩ = (flat (zs.drop (i + 1)))[p]? := fun p hp => by
    rw [hW1, World.cell?_setCells_in g _ _ w (fun j hj => by rw [hnl] at hj; have := (hs (i * 2 + j) (by omega)).1; rwa [← Nat.add_assoc] at this) p (by rw [hnl]; exact hp)]
    exact (List.getElem?_eq_getElem _).symm
  have c3 : ∀ p, i * 2 + k * 2 ≤ p → W1.cell? ⟨g, off + p, none⟩ = w.cell? ⟨g, off + p, none⟩ := fun p hp => by rw [hW1]; exact World.cell?_setCells_out g _ _ w ⟨g, off + p, none⟩ (fun _ _ => .inr (by rw [hnl]; show off + i * 2 + k * 2 ≤ off + p; omega))
  have hf1 : ∀ a, W1.frozen? a = w.frozen? a := fun a => by rw [hW1]; exact World.frozen?_setCells _ _ _ _ _
  have hsz : ∀ (us : List Value) (o : Nat) (W : World), (W.setCells g o us).heap.size = W.heap.size := by
    intro us
    induction us with
    | nil => intro o W; rfl
    | cons u us ih => intro o W; rw [World.setCells, ih]; simp
  have d1 : ∀ p, p < (i + k) * 2 → (W1.setCells g (off + (i + k) * 2) vs).cell? ⟨g, off + p, none⟩ = W1.cell? ⟨g, off + p, none⟩ := fun p hp => World.cell?_setCells_out g _ _ W1 ⟨g, off + p, none⟩ (fun _ _ => .inl (by show off + p < off + (i + k) * 2; omega))
  have hsome : ∀ t, t < cap * 2 → (W1.cell? ⟨g, off + t, none⟩).isSome = true := by
    intro t ht
    by_cases h1 : t < i * 2
    · rw [c1 t h1]; exact (hs t ht).1
    · by_cases h2 : t < i * 2 + k * 2
      · have := c2 (t - i * 2) (by omega)
        rw [show off + i * 2 + (t - i * 2) = off + t by omega] at this
        rw [this, List.getElem?_eq_getElem (by rw [hnl]; omega)]; rfl
      · rw [c3 t (by omega)]; exact (hs t ht).1
  rw [← hW1]
  refine ⟨by rw [hel]; omega, .inr ⟨g, off, cap, by rw [hel], by rw [hel]; omega, hm, by rw [hsz, hW1, hsz]; exact hg, fun j hj => ?_, fun t ht => ?_⟩⟩
  · rw [hel] at hj
    rw [d1 (j * 2) (by omega), Nat.add_assoc, d1 (j * 2 + 1) (by omega)]
    by_cases hji : j < i
    · have e : (zs.eraseIdx i).getD j (0, 0) = zs.getD j (0, 0) := by simp [List.getD, List.getElem?_eraseIdx, hji]
      rw [c1 (j * 2) (by omega), c1 (j * 2 + 1) (by omega), e, ← Nat.add_assoc]
      exact hp j (by omega)
    · have e : (zs.eraseIdx i).getD j (0, 0) = zs.getD (i + 1 + (j - i)) (0, 0) := by
        simp only [List.getD, List.getElem?_eraseIdx, if_neg hji]
        rw [show i + 1 + (j - i) = j + 1 by omega]
      have q := news_get hl (j - i) (by omega)
      have a1 := c2 ((j - i) * 2) (by omega)
      have a2 := c2 ((j - i) * 2 + 1) (by omega)
      rw [show off + i * 2 + (j - i) * 2 = off + j * 2 by omega] at a1
      rw [show off + i * 2 + ((j - i) * 2 + 1) = off + (j * 2 + 1) by omega] at a2
      rw [a1, a2, e]
      exact q
  · refine ⟨?_, by rw [World.frozen?_setCells, hf1]; exact (hs t ht).2⟩
    by_cases h1 : t < (i + k) * 2
    · rw [d1 t h1]; exact hsome t ht
    · by_cases h2 : t < (i + k) * 2 + 2
      · have := World.cell?_setCells_in g vs (off + (i + k) * 2) W1 (fun j hj => by
          rw [Nat.add_assoc]; exact hsome _ (by omega)) (t - (i + k) * 2) (by omega)
        rw [show off + (i + k) * 2 + (t - (i + k) * 2) = off + t by omega] at this
        rw [this]; rfl
      · rw [World.cell?_setCells_out g vs _ W1 ⟨g, off + t, none⟩ (fun _ _ => .inr (by rw [hv]; show off + (i + k) * 2 + 2 ≤ off + t; omega))]
        exact hsome t ht
theorem setCells_block (g : Nat) : ∀ (vs : List Value) (o : Nat) (w : World) (k : Nat), k ≠ g → (w.setCells g o vs).heap[k]? = w.heap[k]?
  | [], _, _, _, _ => rfl
  | v :: r, o, w, k, h => by rw [World.setCells, setCells_block g r _ _ k h, Below.heap_setCell _ _ _ _ h]
theorem setCells_kept {S : List Nat} {a : World} {g : Nat} (hg : g ∈ S) : ∀ (vs : List Value) (o : Nat) (w : World), Kept S a w → Kept S a (w.setCells g o vs)
  | [], _, _, h => h
  | v :: r, o, _, h => setCells_kept hg r _ _ (h.setCell (p := ⟨g, o, none⟩) (Or.inl hg) v)
end Go.Proofs.Ytfehnfbmlomccaa
