/- LogKeeps, plainly: what is left behind a crash. -/
import Derived.Test.YtjbpkmmpbhngbaaGreatDoorKeepsQ
namespace Go.Proofs.YtjbpkmmpbhngbaaGreatDoor
open Go.RowKit

theorem cat_lt (rs : List Rec) (h : ∀ r ∈ rs, r.ok) {i j : Nat} (hij : i < j) (hj : j ≤ rs.length) : (catR (rs.take i)).length < (catR (rs.take j)).length := by
  have e : rs.take j = rs.take i ++ (rs.drop i).take (j - i) := by
    have h1 : j = i + (j - i) := by omega
    conv => lhs; rw [h1]
    rw [List.take_add]
  rw [e, catR_app, List.length_append]
  cases hd : (rs.drop i).take (j - i) with
  | nil =>
    have : ((rs.drop i).take (j - i)).length = 0 := by rw [hd]; rfl
    rw [List.length_take, List.length_drop] at this
    omega
  | cons r l =>
    have hm : r ∈ rs := List.mem_of_mem_drop (List.mem_of_mem_take (by rw [hd]; simp : r ∈ (rs.drop i).take (j - i)))
    have := row_len (h r hm)
    simp only [catR, List.length_append]
    omega
/-- up to where marks lie below -/
theorem whole_at (rs : List Rec) (h : ∀ r ∈ rs, r.ok) (k : Nat) {i : Nat} (hi : i ≤ rs.length) : (catR (rs.take i)).length ≤ k ↔ i ≤ wholeR k rs := by
  obtain ⟨h1, h2⟩ := wholeR_cat rs k
  refine ⟨fun h3 => h2 i hi h3, fun h3 => ?_⟩
  rcases Nat.lt_or_ge i (wholeR k rs) with h4 | h4
  · have := cat_lt rs h h4 (wholeR_le rs k)
    omega
  · have e : i = wholeR k rs := by omega
    rw [e]; exact h1
theorem whole_all (rs : List Rec) (h : ∀ r ∈ rs, r.ok) {j : Nat} (hj : j ≤ rs.length) : wholeR (catR (rs.take j)).length rs = j := by
  have h1 := (whole_at rs h _ hj).1 (Nat.le_refl _)
  have h2 := (wholeR_cat rs (catR (rs.take j)).length).1
  rcases Nat.lt_or_ge j (wholeR (catR (rs.take j)).length rs) with h4 | h4
  · have := cat_lt rs h h4 (wholeR_le rs _)
    omega
  · omega
/-- the first log: what is safe is kept -/
def kp1 : LS := (lsNew.spend 5 10 1).1
theorem kp1_eq : lsNew.spend 5 10 1 = (⟨[⟨5, 10, 1⟩], [], 0, -1, false⟩, 0) := by
  have e : spMoreE lsNew.zs 5 10 1 = 0 := by decide
  unfold LS.spend
  rw [e, if_neg (by decide), if_neg (by decide), if_neg (by decide), if_neg (by decide)]
  simp [lsNew, stepL_neg]
theorem kp_more6 : spMoreE [(5, 10)] 6 10 1 = 0 := by decide
def kp2 : LS := ⟨[⟨5, 10, 1⟩], [], ((catR [⟨5, 10, 1⟩]).length : Int), -1, false⟩
theorem kp2_eq : LS.sync ⟨[⟨5, 10, 1⟩], [], 0, -1, false⟩ = (kp2, 0) := by
  unfold LS.sync kp2 LS.bytes
  simp [stepL_neg]
def kp3 : LS := ⟨[⟨5, 10, 1⟩, ⟨6, 10, 1⟩], [], ((catR [⟨5, 10, 1⟩]).length : Int), -1, false⟩
theorem kp3_eq : kp2.spend 6 10 1 = (kp3, 0) := by
  unfold LS.spend kp2 kp3
  rw [if_neg (by decide)]
  have e : LS.zs ⟨[⟨5, 10, 1⟩], [], ((catR [⟨5, 10, 1⟩]).length : Int), -1, false⟩ = [(5, 10)] := by unfold LS.zs; decide
  rw [e, kp_more6, if_neg (by decide), if_neg (by decide), if_neg (by simp)]
  simp [stepL_neg]
theorem kp3_ok : kp3.ok := by
  have h1 := lsNew_ok.spend 5 10 1
  rw [kp1_eq] at h1
  have h2 := h1.sync
  rw [kp2_eq] at h2
  have h3 := h2.spend 6 10 1
  rw [kp3_eq] at h3
  exact h3
theorem kp4_eq : kp3.crash 0 = kp2 := by
  have hr := okR_rec _ _ kp3_ok.recs
  have h1 := whole_all kp3.rs hr (j := 1) (by decide)
  have e : kp3.rs.take 1 = [⟨5, 10, 1⟩] := rfl
  rw [e] at h1
  have hs := kp3_ok.saf
  have h2 : kp3.left_ 0 = ((catR [⟨5, 10, 1⟩]).length : Int) := by
    have h3 : kp3.safe = ((catR [⟨5, 10, 1⟩]).length : Int) := rfl
    unfold LS.left_
    omega
  unfold LS.crash
  rw [h2, Int.toNat_natCast, h1]
  rfl
theorem kp2_zs : kp2.zs = [(5, 10)] := by unfold LS.zs kp2; decide
theorem kp2_safe : kp2.safe = (kp2.bytes.length : Int) := by unfold LS.bytes kp2; simp
/-- how far one may keep -/
def highK (was all keep : Int) : Int := if 0 < keep ∧ keep < all - was then was + keep else if 0 < keep then all else was
theorem highK_eq {S : LS} (h : S.ok) (keep : Int) : highK S.safe (S.bytes.length : Int) keep = S.left_ keep := by
  have := h.saf
  unfold highK LS.left_
  split
  · omega
  · split <;> omega
/-- the last mark that lies no higher, of the first i -/
def leftK (q i : Nat) : Nat := min (i - 1) q
theorem leftK_next {S : LS} (h : S.ok) (keep : Int) {i : Nat} (hi : i ≤ S.rs.length) :
    (if ((catR (S.rs.take i)).length : Int) ≤ S.left_ keep then i else leftK (wholeR (S.left_ keep).toNat S.rs) i) = leftK (wholeR (S.left_ keep).toNat S.rs) (i + 1) := by
  have h1 := whole_at S.rs (okR_rec _ _ h.recs) (S.left_ keep).toNat hi
  have h2 := h.left_ keep
  unfold leftK
  split
  · have : i ≤ wholeR (S.left_ keep).toNat S.rs := h1.1 (by omega)
    omega
  · have : ¬ i ≤ wholeR (S.left_ keep).toNat S.rs := fun h3 => by have := h1.2 h3; omega
    omega
theorem leftK_end {S : LS} (keep : Int) : leftK (wholeR (S.left_ keep).toNat S.rs) (S.rs.length + 1) = wholeR (S.left_ keep).toNat S.rs := by
  have := wholeR_le S.rs (S.left_ keep).toNat
  unfold leftK
  omega
theorem crash_rs (S : LS) (keep : Int) : (S.crash keep).rs = S.rs.take (wholeR (S.left_ keep).toNat S.rs) ∧ (S.crash keep).safe = ((S.crash keep).bytes.length : Int) ∧ (S.crash keep).bytes.length = (catR (S.rs.take (wholeR (S.left_ keep).toNat S.rs))).length := by
  unfold LS.crash LS.bytes
  simp
end Go.Proofs.YtjbpkmmpbhngbaaGreatDoor
