/- bucket: Check, At, Take by contracts. -/
import Derived.Test.YtmbklchoplgdlaaTime
namespace Go.Proofs.Ytmbklchoplgdlaa
open Go.RowKit

def buB (n : Int) : Bool := decide (0 ≤ n ∧ n ≤ 100)
theorem buB_true {n : Int} : buB n = true ↔ 0 ≤ n ∧ n ≤ 100 := by simp [buB]
theorem bucketBurst (n : Int) (w : World) : Calls Try.prog 35 #[.int .i64 n] w fun e w' => e = .returned (.bool (buB n)) ∧ w = w' := by
  have hc : n < 0 ∨ (0 ≤ n ∧ 100 < n) ∨ (0 ≤ n ∧ n ≤ 100) := by omega
  rcases hc with h | ⟨h1, h2⟩ | ⟨h1, h2⟩
  all_goals
    go_enter Try.func35, Try.ntmps35
    go_wp2
    go_ret
    exact ⟨retB (by first | exact (decide_eq_true (by omega)).symm | exact (decide_eq_false (by omega)).symm | (simp only [buB, decide_eq_decide]; omega)), rfl⟩
theorem bucketBurst_eq {n : Int} {v : Bool} (h : buB n = v) (w : World) : Calls Try.prog 35 #[.int .i64 n] w fun e w' => e = .returned (.bool v) ∧ w = w' := by
  have g := bucketBurst n w
  rwa [h] at g
/-- is a bucket right? -/
def buckB (s r h t : Int) : Bool := decide (1 ≤ s ∧ s ≤ 100 ∧ 0 ≤ r ∧ r ≤ 100 ∧ 0 ≤ h ∧ h ≤ s) && tmB t
set_option maxHeartbeats 1000000 in
theorem bucketCheck_ok {s r h t : Int} (hb : buckB s r h t = true) (w : World) : Calls Try.prog 14 #[.agg #[.int .i64 s, .int .i64 r, .int .i64 h, .int .i64 t]] w fun e w' => e = .returned .nilIface ∧ Below w.heap.size w w' := by
  simp only [buckB, Bool.and_eq_true, decide_eq_true_eq] at hb
  obtain ⟨⟨h1, h2, h3, h4, h5, h6⟩, ht⟩ := hb
  have S := hide (fun W => bucketBurst_eq (buB_true.2 ⟨Int.le_trans (by decide) h1, h2⟩) W)
  have R := hide (fun W => bucketBurst_eq (buB_true.2 ⟨h3, h4⟩) W)
  have T := hide (fun W => tokenTime_eq ht W)
  clear ht
  go_enter Try.func14, Try.ntmps14
  go_wp2_with fail
  refine (S.out _).mono ?_
  rintro e w101 ⟨rfl, rfl⟩
  go_wp2_with fail
  refine (R.out _).mono ?_
  rintro e w102 ⟨rfl, rfl⟩
  go_wp2_with fail
  refine (T.out _).mono ?_
  rintro e w103 ⟨rfl, rfl⟩
  go_wp2
  go_ret
  exact ⟨rfl, by go_grown⟩
set_option maxHeartbeats 1000000 in
theorem bucketCheck_bad {s r h t : Int} (hb : buckB s r h t = false) (w : World) : Calls Try.prog 14 #[.agg #[.int .i64 s, .int .i64 r, .int .i64 h, .int .i64 t]] w fun e w' => e = .returned (.iface 83 (.int .i64 1)) ∧ Below w.heap.size w w' := by
  have hc : s < 1 ∨ (1 ≤ s ∧ 100 < s) ∨ (1 ≤ s ∧ s ≤ 100 ∧ (r < 0 ∨ 100 < r)) ∨ (1 ≤ s ∧ s ≤ 100 ∧ 0 ≤ r ∧ r ≤ 100 ∧ h < 0) ∨ (1 ≤ s ∧ s ≤ 100 ∧ 0 ≤ r ∧ r ≤ 100 ∧ 0 ≤ h ∧ s < h) ∨ (1 ≤ s ∧ s ≤ 100 ∧ 0 ≤ r ∧ r ≤ 100 ∧ 0 ≤ h ∧ h ≤ s ∧ tmB t = false) := by
    simp only [buckB, Bool.and_eq_false_iff, decide_eq_false_iff_not] at hb
    rcases hb with hb | hb
    · omega
    · by_cases g : 1 ≤ s ∧ s ≤ 100 ∧ 0 ≤ r ∧ r ≤ 100 ∧ 0 ≤ h ∧ h ≤ s
      · exact .inr (.inr (.inr (.inr (.inr ⟨g.1, g.2.1, g.2.2.1, g.2.2.2.1, g.2.2.2.2.1, g.2.2.2.2.2, hb⟩))))
      · omega
  clear hb
  rcases hc with h1 | ⟨h1, h2⟩ | ⟨h1, h2, h3⟩ | ⟨h1, h2, h3, h4, h5⟩ | ⟨h1, h2, h3, h4, h5, h6⟩ | ⟨h1, h2, h3, h4, h5, h6, ht⟩
  · go_enter Try.func14, Try.ntmps14
    go_wp2
    go_ret
    exact ⟨rfl, by go_grown⟩
  · have S : Hid (∀ W, Calls Try.prog 35 #[.int .i64 s] W fun e w' => e = .returned (.bool false) ∧ W = w') := bucketBurst_eq (by simp [buB]; omega)
    go_enter Try.func14, Try.ntmps14
    go_wp2_with fail
    refine (S.out _).mono ?_
    rintro e w101 ⟨rfl, rfl⟩
    go_wp2
    go_ret
    exact ⟨rfl, by go_grown⟩
  · have S := hide (fun W => bucketBurst_eq (buB_true.2 ⟨Int.le_trans (by decide) h1, h2⟩) W)
    have R : Hid (∀ W, Calls Try.prog 35 #[.int .i64 r] W fun e w' => e = .returned (.bool false) ∧ W = w') := bucketBurst_eq (by simp [buB]; omega)
    clear h3
    go_enter Try.func14, Try.ntmps14
    go_wp2_with fail
    refine (S.out _).mono ?_
    rintro e w101 ⟨rfl, rfl⟩
    go_wp2_with fail
    refine (R.out _).mono ?_
    rintro e w102 ⟨rfl, rfl⟩
    go_wp2
    go_ret
    exact ⟨rfl, by go_grown⟩
  · have S := hide (fun W => bucketBurst_eq (buB_true.2 ⟨Int.le_trans (by decide) h1, h2⟩) W)
    have R := hide (fun W => bucketBurst_eq (buB_true.2 ⟨h3, h4⟩) W)
    go_enter Try.func14, Try.ntmps14
    go_wp2_with fail
    refine (S.out _).mono ?_
    rintro e w101 ⟨rfl, rfl⟩
    go_wp2_with fail
    refine (R.out _).mono ?_
    rintro e w102 ⟨rfl, rfl⟩
    go_wp2
    go_ret
    exact ⟨rfl, by go_grown⟩
  · have S := hide (fun W => bucketBurst_eq (buB_true.2 ⟨Int.le_trans (by decide) h1, h2⟩) W)
    have R := hide (fun W => bucketBurst_eq (buB_true.2 ⟨h3, h4⟩) W)
    go_enter Try.func14, Try.ntmps14
    go_wp2_with fail
    refine (S.out _).mono ?_
    rintro e w101 ⟨rfl, rfl⟩
    go_wp2_with fail
    refine (R.out _).mono ?_
    rintro e w102 ⟨rfl, rfl⟩
    go_wp2
    go_ret
    exact ⟨rfl, by go_grown⟩
  · have S := hide (fun W => bucketBurst_eq (buB_true.2 ⟨Int.le_trans (by decide) h1, h2⟩) W)
    have R := hide (fun W => bucketBurst_eq (buB_true.2 ⟨h3, h4⟩) W)
    have T := hide (fun W => tokenTime_eq ht W)
    clear ht
    go_enter Try.func14, Try.ntmps14
    go_wp2_with fail
    refine (S.out _).mono ?_
    rintro e w101 ⟨rfl, rfl⟩
    go_wp2_with fail
    refine (R.out _).mono ?_
    rintro e w102 ⟨rfl, rfl⟩
    go_wp2_with fail
    refine (T.out _).mono ?_
    rintro e w103 ⟨rfl, rfl⟩
    go_wp2
    go_ret
    exact ⟨rfl, by go_grown⟩
/-- a bucket at a later time: how many there are; the fault -/
def buckAt (s r h t x : Int) : Int × Int := if buckB s r h t = false then (0, 1) else if tmB x = false then (0, 1) else if x < t then (0, 9) else (min s (h + r * (x - t)), 0)
end Go.Proofs.Ytmbklchoplgdlaa
