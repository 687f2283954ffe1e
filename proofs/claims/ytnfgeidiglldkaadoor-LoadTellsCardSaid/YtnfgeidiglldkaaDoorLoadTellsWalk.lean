/- The walk of LoadTells. -/
import Derived.Test.YtnfgeidiglldkaaDoorRNeeds
import Derived.Test.YtnfgeidiglldkaaDoorErr
namespace Go.Proofs.YtnfgeidiglldkaaDoor
open Go.RowKit

theorem walkLoadTells (w : World) (n : Int) (_w0 : (Lit.int .i64 n).wf = true) (t o : Bool) (hE : ErrT w) :
    Calls Tryd.prog 6 #[.int .i64 n, .bool t, .bool o] w fun e w' => e = .returned (.bool true) ∧ Below w.heap.size w w' := by
  obtain ⟨v, c, hv⟩ : ∃ v c, needsOf n t o = (v, c) := ⟨_, _, rfl⟩
  have CN := hide (fun W => needs_eq hv W)
  have CR := hide (fun W => rNeeds_eq hv W)
  clear hv _w0
  have hc : n < 0 ∨ 8 < n ∨ (0 ≤ n ∧ n < 4) ∨ (4 ≤ n ∧ n < 8) ∨ n = 8 := by omega
  rcases hc with h | h | ⟨h1, h2⟩ | ⟨h1, h2⟩ | rfl
  · have CL := hide (fun W => level_eq (show levelOf n = (0, 1) by simp [levelOf, h]) W)
    go_enter Tryd.func6, Tryd.ntmps6
    go_wp2_with fail
    refine (CL.out _).mono ?_
    rintro e w1 ⟨rfl, rfl⟩
    go_wp2_with fail
    refine (error_any 1 1 _ hE).mono ?_
    rintro e w1 ⟨rfl, hb1⟩
    go_wp2_with fail
    refine (CR.out _).mono ?_
    rintro e w2 ⟨rfl, rfl⟩
    go_wp2_with fail
    refine (CN.out _).mono ?_
    rintro e w2 ⟨rfl, rfl⟩
    go_wp2_with fail
    refine (error_any c c _ (hE.below hb1 hE.pos)).mono ?_
    rintro e w2 ⟨rfl, hb2⟩
    have hb3 := hb1.trans (hb2.mono hb1.size)
    clear hb1 hb2
    go_wp2
    go_ret
    exact ⟨rfl, hb3⟩
  · have CL := hide (fun W => level_eq (show levelOf n = (0, 1) by simp [levelOf, h]) W)
    go_enter Tryd.func6, Tryd.ntmps6
    go_wp2_with fail
    refine (CL.out _).mono ?_
    rintro e w1 ⟨rfl, rfl⟩
    go_wp2_with fail
    refine (error_any 1 1 _ hE).mono ?_
    rintro e w1 ⟨rfl, hb1⟩
    go_wp2_with fail
    refine (CR.out _).mono ?_
    rintro e w2 ⟨rfl, rfl⟩
    go_wp2_with fail
    refine (CN.out _).mono ?_
    rintro e w2 ⟨rfl, rfl⟩
    go_wp2_with fail
    refine (error_any c c _ (hE.below hb1 hE.pos)).mono ?_
    rintro e w2 ⟨rfl, hb2⟩
    have hb3 := hb1.trans (hb2.mono hb1.size)
    clear hb1 hb2
    go_wp2
    go_ret
    exact ⟨rfl, hb3⟩
  · have CL := hide (fun W => level_eq (show levelOf n = (0, 0) by unfold levelOf; rw [if_neg (by omega), if_pos h2]) W)
    have t1 : (n == 8) = false := beq_eq_false_iff_ne.2 (by omega)
    go_enter Tryd.func6, Tryd.ntmps6
    go_wp2_with fail
    refine (CL.out _).mono ?_
    rintro e w1 ⟨rfl, rfl⟩
    go_wp2_with fail
    refine (error_any 0 0 _ hE).mono ?_
    rintro e w1 ⟨rfl, hb1⟩
    go_wp2_with fail
    refine (CR.out _).mono ?_
    rintro e w2 ⟨rfl, rfl⟩
    go_wp2_with fail
    refine (CN.out _).mono ?_
    rintro e w2 ⟨rfl, rfl⟩
    go_wp2_with fail
    refine (error_any c c _ (hE.below hb1 hE.pos)).mono ?_
    rintro e w2 ⟨rfl, hb2⟩
    have hb3 := hb1.trans (hb2.mono hb1.size)
    clear hb1 hb2
    go_wp2
    go_ret
    exact ⟨rfl, hb3⟩
  · have CL := hide (fun W => level_eq (show levelOf n = (1, 0) by unfold levelOf; rw [if_neg (by omega), if_neg (by omega), if_pos h2]) W)
    have t1 : (n == 8) = false := beq_eq_false_iff_ne.2 (by omega)
    go_enter Tryd.func6, Tryd.ntmps6
    go_wp2_with fail
    refine (CL.out _).mono ?_
    rintro e w1 ⟨rfl, rfl⟩
    go_wp2_with fail
    refine (error_any 0 0 _ hE).mono ?_
    rintro e w1 ⟨rfl, hb1⟩
    go_wp2_with fail
    refine (CR.out _).mono ?_
    rintro e w2 ⟨rfl, rfl⟩
    go_wp2_with fail
    refine (CN.out _).mono ?_
    rintro e w2 ⟨rfl, rfl⟩
    go_wp2_with fail
    refine (error_any c c _ (hE.below hb1 hE.pos)).mono ?_
    rintro e w2 ⟨rfl, hb2⟩
    have hb3 := hb1.trans (hb2.mono hb1.size)
    clear hb1 hb2
    go_wp2
    go_ret
    exact ⟨rfl, hb3⟩
  · have CL := hide (fun W => level_eq (show levelOf 8 = (2, 0) by rfl) W)
    go_enter Tryd.func6, Tryd.ntmps6
    go_wp2_with fail
    refine (CL.out _).mono ?_
    rintro e w1 ⟨rfl, rfl⟩
    go_wp2_with fail
    refine (error_any 0 0 _ hE).mono ?_
    rintro e w1 ⟨rfl, hb1⟩
    go_wp2_with fail
    refine (CR.out _).mono ?_
    rintro e w2 ⟨rfl, rfl⟩
    go_wp2_with fail
    refine (CN.out _).mono ?_
    rintro e w2 ⟨rfl, rfl⟩
    go_wp2_with fail
    refine (error_any c c _ (hE.below hb1 hE.pos)).mono ?_
    rintro e w2 ⟨rfl, hb2⟩
    have hb3 := hb1.trans (hb2.mono hb1.size)
    clear hb1 hb2
    go_wp2
    go_ret
    exact ⟨rfl, hb3⟩
end Go.Proofs.YtnfgeidiglldkaaDoor
