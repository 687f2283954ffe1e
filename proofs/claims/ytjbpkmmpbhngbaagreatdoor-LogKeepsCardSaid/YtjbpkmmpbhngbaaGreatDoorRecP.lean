/- Records of the log, plainly: their bytes, lines, fields, numbers; what a beginning of records holds. -/
import Derived.Lib.Fields
import Derived.Lib.Atoi
import Derived.Lib.LastIndexByte
import Derived.Test.YtjbpkmmpbhngbaaGreatDoorLineL
import Derived.Test.YtjbpkmmpbhngbaaGreatDoorLog2
namespace Go.Proofs.YtjbpkmmpbhngbaaGreatDoor
open Go.RowKit

theorem dec_digit (u : Nat) : ∀ c ∈ Lib.decDigits u, 48 ≤ c.toNat ∧ c.toNat ≤ 57 := by
  induction u using Nat.strongRecOn with
  | _ u ih =>
    rw [Lib.decDigits]
    by_cases h : u < 10
    · rw [dif_pos h]
      intro c hc
      obtain rfl := List.mem_singleton.1 hc
      simp
      omega
    · rw [dif_neg h]
      intro c hc
      rcases List.mem_append.1 hc with h1 | h1
      · exact ih _ (by omega) c h1
      · obtain rfl := List.mem_singleton.1 h1
        simp
        omega
theorem dec_ne (u : Nat) : Lib.decDigits u ≠ [] := by
  intro h
  have := Lib.decDigits_length u
  have h2 := Lib.nDigits_pos u
  rw [h] at this
  simp at this
  omega
theorem decFrom_app (a b : List UInt8) : ∀ acc n, Lib.decFrom acc a = some n → Lib.decFrom acc (a ++ b) = Lib.decFrom n b := by
  induction a with
  | nil => intro acc n h; cases h; rfl
  | cons c a ih =>
    intro acc n h
    simp only [Lib.decFrom] at h
    simp only [List.cons_append, Lib.decFrom]
    cases hd : Lib.digitVal c with
    | none => rw [hd] at h; cases h
    | some d => rw [hd] at h; exact ih _ _ h
theorem dec_from (u : Nat) : Lib.decFrom 0 (Lib.decDigits u) = some u := by
  induction u using Nat.strongRecOn with
  | _ u ih =>
    rw [Lib.decDigits]
    by_cases h : u < 10
    · rw [dif_pos h]
      have e : (UInt8.ofNat (48 + u)).toNat = 48 + u := by simp; omega
      simp only [Lib.decFrom, Lib.digitVal, e]
      rw [if_pos (by omega)]
      simp
    · rw [dif_neg h, decFrom_app _ _ _ _ (ih (u / 10) (by omega))]
      have e : (UInt8.ofNat (48 + u % 10)).toNat = 48 + u % 10 := by simp; omega
      simp only [Lib.decFrom, Lib.digitVal, e]
      rw [if_pos (by omega)]
      simp
      omega
theorem atoi_dec (u : Nat) : Lib.atoi (Lib.decDigits u) = some (u : Int) := by
  have h1 := dec_from u
  have h2 := dec_ne u
  have h3 := dec_digit u
  cases hd : Lib.decDigits u with
  | nil => exact absurd hd h2
  | cons b r =>
    rw [hd] at h1 h3
    obtain ⟨h4, h5⟩ := h3 b (by simp)
    have n1 : (b == 45) = false := beq_eq_false_iff_ne.2 (by rintro rfl; simp at h4)
    have n2 : (b == 43) = false := beq_eq_false_iff_ne.2 (by rintro rfl; simp at h4)
    simp only [Lib.atoi, n1, n2]
    simp [Lib.decNat, h1]
/-- the bytes of a number -/
def numL (n : Int) : List UInt8 := Lib.itoa n
theorem numL_nat {n : Int} (h : 0 ≤ n) : numL n = Lib.decDigits n.toNat := by unfold numL Lib.itoa; rw [if_neg (by omega)]
theorem numL_atoi {n : Int} (h : 0 ≤ n) : Lib.atoi (numL n) = some n := by rw [numL_nat h, atoi_dec]; simp; omega
theorem numL_ne {n : Int} (h : 0 ≤ n) : numL n ≠ [] := by rw [numL_nat h]; exact dec_ne _
theorem numL_digit {n : Int} (h : 0 ≤ n) : ∀ c ∈ numL n, 48 ≤ c.toNat ∧ c.toNat ≤ 57 := by rw [numL_nat h]; exact dec_digit _
theorem numB_list (n : Int) : (numB n).data.toList = numL n := rfl

/-- a record -/
structure Rec where
  n : Int
  u : Int
  now : Int
def Rec.ok (r : Rec) : Prop := (0 ≤ r.n ∧ r.n < 1000000) ∧ (0 ≤ r.u ∧ r.u < 1000000) ∧ (0 ≤ r.now ∧ r.now < 1000000)
/-- a record's bytes but the last one, which is 10 -/
def Rec.ini (r : Rec) : List UInt8 := numL r.n ++ 32 :: (numL r.u ++ 32 :: numL r.now)
def Rec.row (r : Rec) : List UInt8 := r.ini ++ [10]
theorem recB_list (n u now : Int) : (recB n u now).data.toList = (Rec.mk n u now).row := by
  unfold recB Rec.row Rec.ini
  simp [numB_list]
theorem not_ten {n : Int} (h : 0 ≤ n) : ∀ c ∈ numL n, c ≠ 10 := fun c hc e => by
  have := (numL_digit h c hc).1
  subst e
  simp at this
theorem Rec.ini_ten {r : Rec} (h : r.ok) : ∀ c ∈ r.ini, c ≠ 10 := by
  intro c hc
  obtain ⟨h1, h2, h3⟩ := h
  unfold Rec.ini at hc
  simp only [List.mem_append, List.mem_cons] at hc
  rcases hc with h' | rfl | h' | rfl | h'
  · exact not_ten h1.1 c h'
  · decide
  · exact not_ten h2.1 c h'
  · decide
  · exact not_ten h3.1 c h'
theorem Rec.row_ascii {r : Rec} (h : r.ok) : ∀ c ∈ r.row, c.toNat < 128 := by
  intro c hc
  obtain ⟨h1, h2, h3⟩ := h
  unfold Rec.row Rec.ini at hc
  simp only [List.mem_append, List.mem_cons, List.not_mem_nil, or_false] at hc
  rcases hc with (h' | rfl | h' | rfl | h') | rfl
  · have := numL_digit h1.1 c h'; omega
  · decide
  · have := numL_digit h2.1 c h'; omega
  · decide
  · have := numL_digit h3.1 c h'; omega
  · decide
theorem sp_digit (c : UInt8) (h : 48 ≤ c.toNat ∧ c.toNat ≤ 57) : Lib.isSp c = false := by
  have : ∀ k : UInt8, k.toNat < 48 → (c == k) = false := fun k hk => beq_eq_false_iff_ne.2 (by rintro rfl; omega)
  unfold Lib.isSp
  rw [this 9 (by decide), this 10 (by decide), this 11 (by decide), this 12 (by decide), this 13 (by decide), this 32 (by decide)]
  rfl
theorem fields_word (l : List UInt8) (h : ∀ c ∈ l, 48 ≤ c.toNat ∧ c.toNat ≤ 57) : ∀ (cur : List UInt8) (b : UInt8) (r : List UInt8), Lib.isSp b = true → cur ++ l ≠ [] → Lib.fieldsGo cur (l ++ b :: r) = (cur ++ l) :: Lib.fieldsGo [] r := by
  induction l with
  | nil => intro cur b r hb hn; rw [List.append_nil] at hn ⊢; exact Lib.fieldsGo_end cur b r hb hn
  | cons c l ih =>
    intro cur b r hb hn
    rw [List.cons_append, Lib.fieldsGo_more _ _ _ (sp_digit c (h c (by simp))), ih (fun x hx => h x (by simp [hx])) _ _ _ hb (by simp)]
    simp
theorem Rec.fields {r : Rec} (h : r.ok) : Lib.fields r.row = [numL r.n, numL r.u, numL r.now] := by
  obtain ⟨h1, h2, h3⟩ := h
  have e : r.row = numL r.n ++ 32 :: (numL r.u ++ 32 :: (numL r.now ++ 10 :: [])) := by unfold Rec.row Rec.ini; simp
  rw [e]
  unfold Lib.fields
  rw [fields_word _ (numL_digit h1.1) _ _ _ (by decide) (by simpa using numL_ne h1.1), fields_word _ (numL_digit h2.1) _ _ _ (by decide) (by simpa using numL_ne h2.1), fields_word _ (numL_digit h3.1) _ _ _ (by decide) (by simpa using numL_ne h3.1)]
  rfl
/-- records' bytes -/
def catR : List Rec → List UInt8
  | [] => []
  | r :: rs => r.row ++ catR rs
theorem catR_app (a b : List Rec) : catR (a ++ b) = catR a ++ catR b := by
  induction a with
  | nil => rfl
  | cons r a ih => simp [catR, ih]
theorem lines_cat (rs : List Rec) (h : ∀ r ∈ rs, r.ok) : linesL (catR rs) = rs.map Rec.row := by
  induction rs with
  | nil => rfl
  | cons r rs ih =>
    have e : catR (r :: rs) = r.ini ++ 10 :: catR rs := by simp [catR, Rec.row]
    rw [e, linesL_line _ _ (Rec.ini_ten (h r (by simp))), ih (fun x hx => h x (by simp [hx]))]
    rfl
/-- how many of the records are whole within so many bytes -/
def wholeR : Nat → List Rec → Nat
  | _, [] => 0
  | k, r :: rs => if r.row.length ≤ k then wholeR (k - r.row.length) rs + 1 else 0
theorem wholeR_le (rs : List Rec) : ∀ k, wholeR k rs ≤ rs.length := by
  induction rs with
  | nil => intro k; exact Nat.le_refl _
  | cons r rs ih =>
    intro k
    unfold wholeR
    split
    · have := ih (k - r.row.length); simp; omega
    · simp
/-- what is left of records and of a tail without byte 10 -/
theorem take_cat (rs : List Rec) (h : ∀ r ∈ rs, r.ok) (tl : List UInt8) (ht : ∀ c ∈ tl, c ≠ 10) : ∀ k, ∃ t : List UInt8, (∀ c ∈ t, c ≠ 10) ∧ (catR rs ++ tl).take k = catR (rs.take (wholeR k rs)) ++ t := by
  induction rs with
  | nil => intro k; exact ⟨tl.take k, fun c hc => ht c (List.mem_of_mem_take hc), by simp [catR, wholeR]⟩
  | cons r rs ih =>
    intro k
    by_cases hk : r.row.length ≤ k
    · obtain ⟨t, h1, h2⟩ := ih (fun x hx => h x (by simp [hx])) (k - r.row.length)
      refine ⟨t, h1, ?_⟩
      unfold wholeR
      rw [if_pos hk]
      simp only [catR, List.take_succ_cons, List.append_assoc]
      rw [List.take_append, List.take_of_length_le hk, h2]
    · refine ⟨(catR (r :: rs) ++ tl).take k, ?_, ?_⟩
      · intro c hc
        have hr : r.row.length = r.ini.length + 1 := by simp [Rec.row]
        have e : (catR (r :: rs) ++ tl).take k = r.ini.take k := by
          simp only [catR, Rec.row, List.append_assoc]
          rw [List.take_append_of_le_length (by omega)]
        rw [e] at hc
        exact Rec.ini_ten (h r (by simp)) c (List.mem_of_mem_take hc)
      · unfold wholeR
        rw [if_neg hk]
        rfl
theorem wholeR_cat (rs : List Rec) : ∀ k, (catR (rs.take (wholeR k rs))).length ≤ k ∧ ∀ j, j ≤ rs.length → (catR (rs.take j)).length ≤ k → j ≤ wholeR k rs := by
  induction rs with
  | nil => intro k; exact ⟨by simp [wholeR, catR], fun j hj _ => by simpa [wholeR] using hj⟩
  | cons r rs ih =>
    intro k
    by_cases hk : r.row.length ≤ k
    · obtain ⟨h1, h2⟩ := ih (k - r.row.length)
      unfold wholeR
      rw [if_pos hk]
      refine ⟨by simp only [List.take_succ_cons, catR, List.length_append]; omega, fun j hj hjk => ?_⟩
      cases j with
      | zero => omega
      | succ j =>
        simp only [List.take_succ_cons, catR, List.length_append] at hjk
        have := h2 j (by simpa using hj) (by omega)
        omega
    · unfold wholeR
      rw [if_neg hk]
      refine ⟨by simp [catR], fun j hj hjk => ?_⟩
      cases j with
      | zero => omega
      | succ j =>
        simp only [List.take_succ_cons, catR, List.length_append] at hjk
        omega
end Go.Proofs.YtjbpkmmpbhngbaaGreatDoor
