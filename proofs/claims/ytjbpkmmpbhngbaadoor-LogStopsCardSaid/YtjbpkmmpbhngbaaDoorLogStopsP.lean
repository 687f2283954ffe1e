/- LogStops, plainly: the states that it goes through. -/
import Derived.Test.YtjbpkmmpbhngbaaDoorLog5
namespace Go.Proofs.YtjbpkmmpbhngbaaDoor
open Go.RowKit

def recs (m : Nat) : List Rec := (List.range m).map fun (i : Nat) => Rec.mk (i : Int) 5 1
def rz (m : Nat) : List (Int × Int) := (List.range m).map fun (i : Nat) => ((i : Int), (5 : Int))
theorem recs_succ (m : Nat) : recs (m + 1) = recs m ++ [⟨m, 5, 1⟩] := by simp [recs, List.range_succ]
theorem rz_succ (m : Nat) : rz (m + 1) = rz m ++ [((m : Int), 5)] := by simp [rz, List.range_succ]
theorem rz_len (m : Nat) : (rz m).length = m := by simp [rz]
theorem recs_len (m : Nat) : (recs m).length = m := by simp [recs]
theorem rz_drop (m : Nat) (t : Int) (ht : t ≤ 5) : spDrop (rz m) t = rz m := by
  unfold spDrop
  rw [List.filter_eq_self]
  intro x hx
  obtain ⟨j, _, rfl⟩ := List.mem_map.1 hx
  simp
  omega
theorem rz_any (m : Nat) (n : Int) (h : (m : Int) ≤ n) : (rz m).any (fun x => x.1 == n) = false := by
  rw [List.any_eq_false]
  intro x hx
  obtain ⟨j, hj, rfl⟩ := List.mem_map.1 hx
  have := List.mem_range.1 hj
  simp
  omega
theorem rz_more (m : Nat) : moreR [] (recs m) = rz m := by
  induction m with
  | zero => rfl
  | succ m ih =>
    rw [recs_succ, moreR_app, ih, rz_succ]
    show spDrop (rz m) 1 ++ [((m : Int), 5)] = _
    rw [rz_drop m 1 (by omega)]
theorem rz_ok {m : Nat} {n u t : Int} (hm : m ≤ 15) (hn : (m : Int) ≤ n ∧ n < 999983) (hu : t ≤ u ∧ u ≤ 100) (ht : 0 ≤ t ∧ t ≤ 5) : spMoreE (rz m) n u t = 0 := by
  unfold spMoreE
  rw [rz_drop m t ht.2, rz_any m n hn.1, if_neg (by rw [inB_true.2 (by omega), tmB_true.2 (by omega), tmB_true.2 (by omega)]; decide), if_neg (by omega), if_neg (by simp), rz_len, if_neg (by omega)]
theorem rz_bad (m : Nat) : spMoreE (rz m) (-1) 5 1 = 1 := by
  unfold spMoreE
  rw [if_pos (by have : inB (-1) = false := by decide
                 rw [this]; rfl)]
theorem recs_take (m j : Nat) : (recs m).take j = recs (min j m) := by
  unfold recs
  rw [← List.map_take, List.take_range]

/-- the log when it was spent i times, with a steps till it stops -/
def stops (a i : Nat) : LS := if i ≤ a then ⟨recs i, [], 0, (a : Int) - (i : Int), false⟩ else ⟨recs a, halfR ⟨a, 5, 1⟩, 0, -1, true⟩
theorem stops_0 (a : Nat) : stops a 0 = lsNew.fail a := by
  unfold stops LS.fail lsNew
  rw [if_pos (Nat.zero_le _)]
  have : max (-1 : Int) (a : Int) = a := by omega
  simp [this, recs]
theorem stops_bad (a i : Nat) : (stops a i).spend (-1) 5 1 = (stops a i, if i ≤ a then 1 else 6) := by
  unfold stops
  split
  · unfold LS.spend LS.zs
    simp only
    rw [if_neg (by simp), rz_more, rz_bad, if_pos (by decide)]
  · rfl
theorem stops_next {a i : Nat} (hi : i ≤ 12) : (stops a i).spend (i : Int) 5 1 = (stops a (i + 1), if i < a then 0 else 6) := by
  unfold stops
  by_cases h1 : i ≤ a
  · rw [if_pos h1]
    have hm : spMoreE (rz i) (i : Int) 5 1 = 0 := rz_ok (by omega) (by omega) (by omega) (by omega)
    unfold LS.spend LS.zs
    simp only
    rw [if_neg (by simp), rz_more, hm, if_neg (by simp), recs_len, if_neg (by omega)]
    by_cases h2 : i < a
    · rw [if_neg (by omega), if_pos (by omega), if_pos h2, recs_succ]
      have : stepL ((a : Int) - (i : Int)) = (a : Int) - ((i + 1 : Nat) : Int) := by rw [stepL_pos (by omega)]; omega
      rw [this]
    · obtain rfl : i = a := by omega
      rw [if_pos (by omega), if_neg (by omega), if_neg h2]
  · rw [if_neg h1, if_neg (by omega), if_neg (by omega)]
    rfl
theorem stops_ok (a : Nat) (ha : a ≤ 12) : ∀ i : Nat, i ≤ 13 → (stops a i).ok
  | 0, _ => by rw [stops_0]; exact LS.ok.fail lsNew_ok (by omega)
  | i + 1, h => by
    have h1 := stops_ok a ha i (by omega)
    have h2 := LS.ok.spend h1 (i : Int) 5 1
    rw [stops_next (by omega)] at h2
    exact h2
/-- what is known of it behind its syncs: m records; stopped just if all steps are over -/
structure SyncAt (a m n : Nat) (S : LS) : Prop where
  ok : S.ok
  rs : S.rs = recs m
  run : n ≤ a → S.st = false ∧ S.left = (a : Int) - (n : Int)
  halt : a < n → S.st = true
theorem sync_start {a m : Nat} (ha : a ≤ 12) (hm : m ≤ 12) : SyncAt a (min m a) m (stops a m) := by
  refine ⟨stops_ok a ha m (by omega), ?_, fun h => ?_, fun h => ?_⟩
  · unfold stops
    split
    · rw [Nat.min_eq_left (by assumption)]
    · rw [Nat.min_eq_right (by omega)]
  · unfold stops; rw [if_pos h]; exact ⟨rfl, rfl⟩
  · unfold stops; rw [if_neg (by omega)]
theorem sync_next {a m n : Nat} {S : LS} (h : SyncAt a m n S) (hn : n ≤ a) : SyncAt a m (n + 1) S.sync.1 ∧ S.sync.2 = if n = a then 6 else 0 := by
  obtain ⟨h1, h2⟩ := h.run hn
  by_cases e : n = a
  · have es : S.sync = ({ S with left := -1, st := true }, 6) := by unfold LS.sync; rw [if_neg (by simp [h1]), if_pos (by omega)]
    have ok := h.ok.sync
    rw [es] at ok ⊢
    exact ⟨⟨ok, h.rs, fun h3 => by omega, fun _ => rfl⟩, by rw [if_pos e]⟩
  · have es : S.sync = ({ S with safe := S.bytes.length, left := stepL S.left, st := false }, 0) := by unfold LS.sync; rw [if_neg (by simp [h1]), if_neg (by omega)]
    have ok := h.ok.sync
    rw [es] at ok ⊢
    refine ⟨⟨ok, h.rs, fun _ => ⟨rfl, ?_⟩, fun h3 => by omega⟩, by rw [if_neg e]⟩
    show stepL S.left = _
    rw [h2, stepL_pos (by omega)]
    omega
/-- behind the crash -/
theorem crash_recs {S : LS} {m : Nat} (h : S.rs = recs m) (keep : Int) : ∃ k, k ≤ m ∧ (S.crash keep).rs = recs k ∧ (S.crash keep).left = -1 ∧ (S.crash keep).st = false := by
  refine ⟨min (wholeR (S.left_ keep).toNat S.rs) m, by omega, ?_, rfl, rfl⟩
  unfold LS.crash
  simp only
  rw [h, recs_take]
theorem last_spend {S : LS} {k : Nat} (hk : k ≤ 13) (h : S.rs = recs k) (hl : S.left = -1) (hs : S.st = false) : (S.spend 500 9 2).2 = 0 ∧ (S.spend 500 9 2).1.zs = rz k ++ [(500, 9)] ∧ (S.spend 500 9 2).1.left = -1 ∧ (S.spend 500 9 2).1.st = false := by
  have hm : spMoreE (rz k) 500 9 2 = 0 := rz_ok (by omega) (by omega) (by omega) (by omega)
  have e : S.spend 500 9 2 = ({ S with rs := S.rs ++ [⟨500, 9, 2⟩], left := stepL S.left, st := false }, 0) := by
    unfold LS.spend LS.zs
    rw [if_neg (by simp [hs]), h, rz_more, hm, if_neg (by simp), recs_len, if_neg (by omega), if_neg (by omega)]
  rw [e]
  refine ⟨rfl, ?_, by simp [hl, stepL_neg], rfl⟩
  unfold LS.zs
  simp only
  rw [moreR_app, h, rz_more]
  show spDrop (rz k) 2 ++ [(500, 9)] = _
  rw [rz_drop k 2 (by omega)]
theorem last_sync {S : LS} (hl : S.left = -1) (hs : S.st = false) : S.sync = ({ S with safe := S.bytes.length, left := -1, st := false }, 0) := by
  unfold LS.sync
  rw [if_neg (by simp [hs]), if_neg (by omega), hl, stepL_neg]
end Go.Proofs.YtjbpkmmpbhngbaaDoor
