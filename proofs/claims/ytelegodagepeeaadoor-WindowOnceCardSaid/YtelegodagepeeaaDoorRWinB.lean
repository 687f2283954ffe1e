/- foldref1: Take (of a window), the faults; beside window.Take. -/
import Derived.Test.YtelegodagepeeaaDoorRWinT
namespace Go.Proofs.YtelegodagepeeaaDoor
open Go.RowKit

set_option maxHeartbeats 1000000 in
theorem rWTake_bad {T n c : Int} {b : Nat} (hw : winE T b = 0) (hc : (if tmB n = false then (1 : Int) else if n ≤ T - 32 then 9 else if cameB T b n then 7 else 0) = c) (h0 : c ≠ 0) (w : World) :
    Calls Tryd.prog 18 #[.agg #[.int .i64 T, .int .i64 (b : Int)], .int .i64 n] w fun e w' => e = .returned (.tuple #[.agg #[.int .i64 0, .int .i64 0], .int .i64 c]) ∧ Below w.heap.size w w' := by
  obtain ⟨k1, k2, k3, k4, _, _⟩ := winE_ok hw
  have hb : b < 4294967296 := by omega
  cases ht : tmB n
  · rw [ht, if_pos rfl] at hc
    subst hc
    have TM := hide (fun W => rTime_eq ht W)
    clear hw ht h0
    go_enter Tryd.func18, Tryd.ntmps18
    go_wp2_with fail
    refine (TM.out _).mono ?_
    rintro e w501 ⟨rfl, rfl⟩
    go_wp2
    exact bodyPost_ret (v := .tuple #[.agg #[.int .i64 0, .int .i64 0], .int .i64 1]) (by simp [results, Tryd.results18, go_sem, *]) rfl ⟨rfl, by go_grown⟩
  · obtain ⟨n0, n1⟩ := tmB_true.1 ht
    have TM := hide (fun W => rTime_eq ht W)
    rw [ht, if_neg (by simp)] at hc
    by_cases h9 : n ≤ T - 32
    · rw [if_pos h9] at hc
      subst hc
      clear hw ht h0
      go_enter Tryd.func18, Tryd.ntmps18
      go_wp2_with fail
      refine (TM.out _).mono ?_
      rintro e w501 ⟨rfl, rfl⟩
      go_wp2
      exact bodyPost_ret (v := .tuple #[.agg #[.int .i64 0, .int .i64 0], .int .i64 9]) (by simp [results, Tryd.results18, go_sem, *]) rfl ⟨rfl, by go_grown⟩
    · rw [if_neg h9] at hc
      cases hv : cameB T b n
      · rw [hv, if_neg (by simp)] at hc; exact absurd hc.symm h0
      · rw [hv, if_pos rfl] at hc
        subst hc
        have h10 : T - 32 < n := by omega
        have CM := hide (fun W => rCame k1 k2 hb (by omega) (by omega) hv W)
        clear hw ht h0 hv h9
        go_enter Tryd.func18, Tryd.ntmps18
        go_wp2_with fail
        refine (TM.out _).mono ?_
        rintro e w501 ⟨rfl, rfl⟩
        go_wp2_with fail
        refine (CM.out _).mono ?_
        rintro e w2 ⟨rfl, hb2⟩
        have hB2 : Below w.heap.size w w2 := by
          refine Below.trans ?_ (Below.mono hb2 ?_)
          · go_grown
          · first | omega | (simp; done) | (simp; omega)
        have o2_b : ObjAt w2 (w.heap.size) 23 [.int .i64 T, .int .i64 (b : Int)] := ObjAt.below (ObjAt.alloc (objNew (by simp)) _) hb2
        have o2_res : ObjAt w2 (w.heap.size + 1) 23 [.int .i64 0, .int .i64 0] := ObjAt.below (objNew (by simp)) hb2
        have q2_b_0 := o2_b.cell (i := 0) rfl
        have f2_b_0 := o2_b.free 0
        have q2_b_1 := o2_b.cell (i := 1) rfl
        have f2_b_1 := o2_b.free 1
        have l2_b := o2_b.lt
        have H2_b := hide o2_b
        clear o2_b
        have q2_res_0 := o2_res.cell (i := 0) rfl
        have f2_res_0 := o2_res.free 0
        have q2_res_1 := o2_res.cell (i := 1) rfl
        have f2_res_1 := o2_res.free 1
        have l2_res := o2_res.lt
        have H2_res := hide o2_res
        clear o2_res
        have hy2 : w.heap.size ≤ w2.heap.size := hB2.size
        clear hb2
        go_wp2
        exact bodyPost_ret (v := .tuple #[.agg #[.int .i64 0, .int .i64 0], .int .i64 7]) (by simp [results, Tryd.results18, go_sem, *]) rfl ⟨rfl, by go_grown⟩
/-- the document's Take and the program's -/
theorem winBoth {T n : Int} {b : Nat} (hw : winE T b = 0) : ∃ X Y c : Int,
    (∀ W, Calls Tryd.prog 18 #[.agg #[.int .i64 T, .int .i64 (b : Int)], .int .i64 n] W fun e w' => e = .returned (.tuple #[.agg #[.int .i64 X, .int .i64 Y], .int .i64 c]) ∧ Below W.heap.size W w') ∧
    (∀ W, Calls Tryd.prog 19 #[.agg #[.int .i64 T, .int .i64 (b : Int)], .int .i64 n] W fun e w' => e = .returned (.tuple #[.agg #[.int .i64 X, .int .i64 Y], errV c]) ∧ Below W.heap.size W w') := by
  obtain ⟨k1, k2, k3, k4, k5, k6⟩ := winE_ok hw
  have hb : b < 4294967296 := by omega
  cases ht : tmB n
  · exact ⟨0, 0, 1, rWTake_bad hw (by rw [if_pos ht]) (by decide), windowTake_bad (by unfold winTE; rw [if_neg (by simp [hw]), if_pos ht]) (by decide)⟩
  · obtain ⟨n0, n1⟩ := tmB_true.1 ht
    by_cases hlt : T < n
    · have hcm : cameB T b n = false := by unfold cameB; rw [decide_eq_false (by omega)]; rfl
      refine ⟨n, ((winUp T b n : Nat) : Int), 0, fun W => ?_, fun W => windowTake_up hw ht hlt W⟩
      have g := rWTake_ok (top := n) hw ht (by omega) hcm (by rw [if_pos hlt]) W
      rwa [rt_up hb hlt (fun h => by have := k5 h; omega) k1 (fun h => by
        by_cases h1 : T = -1
        · have h2 := k5 h1
          rw [h2]; simp
        · exact (k6 h1).2 h)] at g
    · by_cases h32 : T - n < 32
      · cases hcm : cameB T b n
        · refine ⟨T, ((b ||| (1 <<< (T - n).toNat) : Nat) : Int), 0, fun W => ?_, fun W => windowTake_back hw ht (by omega) h32 ?_ W⟩
          · have g := rWTake_ok (top := T) hw ht (by omega) hcm (by rw [if_neg hlt]) W
            rwa [rt_back hb (by omega) h32] at g
          · unfold cameB at hcm
            rw [decide_eq_true (by omega), Bool.true_and, Nat.testBit_eq_decide_div_mod_eq, decide_eq_false_iff_not] at hcm
            rw [int_shr]; omega
        · refine ⟨0, 0, 7, rWTake_bad hw (by rw [if_neg (by simp [ht]), if_neg (by omega), if_pos hcm]) (by decide), windowTake_bad ?_ (by decide)⟩
          unfold cameB at hcm
          rw [decide_eq_true (by omega), Bool.true_and, Nat.testBit_eq_decide_div_mod_eq, decide_eq_true_iff] at hcm
          unfold winTE
          rw [if_neg (by simp [hw]), if_neg (by simp [ht]), if_neg hlt, if_neg (by omega), if_pos (by rw [int_shr]; omega)]
      · exact ⟨0, 0, 9, rWTake_bad hw (by rw [if_neg (by simp [ht]), if_pos (by omega)]) (by decide), windowTake_bad (by unfold winTE; rw [if_neg (by simp [hw]), if_neg (by simp [ht]), if_neg hlt, if_pos (by omega)]) (by decide)⟩
end Go.Proofs.YtelegodagepeeaaDoor
