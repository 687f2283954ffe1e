/- The walk of TagTells. -/
import Derived.Test.YtnfgeidiglldkaaDoorTagCheck
import Derived.Test.YtnfgeidiglldkaaDoorRTagged
import Derived.Test.YtnfgeidiglldkaaDoorErr
namespace Go.Proofs.YtnfgeidiglldkaaDoor
open Go.RowKit

theorem walkTagTells (w : World) (key : Int) (_w0 : (Lit.int .i64 key).wf = true) (a : Option Addr) (len cap : Nat) (zs : List Int) (_hl : len ≤ cap) (_hc : cap ≤ maxLen) (hr : IntRow w a len zs) (t : Int) (_w1 : (Lit.int .i64 t).wf = true) (hE : ErrT w) :
    Calls Tryd.prog 9 #[.int .i64 key, .slice a len cap, .int .i64 t] w fun e w' => e = .returned (.bool true) ∧ Below w.heap.size w w' := by
  have RI := hide (fun W => rIn t W)
  obtain ⟨x, hx⟩ : ∃ x, x = tagOf key zs := ⟨_, rfl⟩
  have RT := hide (rTagged key a len cap zs w hr)
  by_cases hm : mkE key zs = 0
  · have hkey : inB key = true := by
      cases h : inB key
      · simp [mkE, h] at hm
      · rfl
    have hall : zs.all inB = true ∧ zs.length ≤ 12 := by
      unfold mkE at hm
      rw [if_neg (by simp [hkey])] at hm
      by_cases hl : 12 < zs.length
      · rw [if_pos hl] at hm; omega
      · rw [if_neg hl] at hm
        cases h : zs.all inB
        · rw [h] at hm; simp at hm
        · exact ⟨rfl, by omega⟩
    have RG : Hid (∀ W, IntRow W a len zs → Calls Tryd.prog 29 #[.int .i64 key, .slice a len cap] W fun e w' => e = .returned (.int .i64 x) ∧ W = w') := by
      intro W hW; rw [hx]
      exact rTag_any key a len cap zs W (inB_true.1 hkey) hW (fun y hy => inB_true.1 (List.all_eq_true.1 hall.1 y hy)) (by have := hr.1; omega)
    have MK : Hid (∀ W, IntRow W a len zs → Calls Tryd.prog 33 #[.int .i64 key, .slice a len cap] W fun e w' => e = .returned (.tuple #[.int .i64 x, .nilIface]) ∧ W = w') := by
      intro W hW
      exact tagMake_eq (c := 0) (by simp [mkV, hm, hx]) hm hW
    have hR := hide hr
    rw [hm] at RT
    cases ht : inB t
    · have CK : Hid (∀ W, IntRow W a len zs → Calls Tryd.prog 34 #[.int .i64 key, .slice a len cap, .int .i64 t] W fun e w' => e = .returned (.tuple #[.bool false, .iface 68 (.int .i64 1)]) ∧ W = w') := by
        intro W hW
        exact tagCheck_eq (c := 1) (by simp [chkN, hm, ht]) hW
      rw [ht] at RI
      clear hkey hall hm ht hx hr
      go_enter Tryd.func9, Tryd.ntmps9
      go_wp2_with fail
      refine RT.out.mono ?_
      rintro e w1 ⟨rfl, rfl⟩
      go_wp2_with fail
      refine (RG.out _ hR.out).mono ?_
      rintro e w1 ⟨rfl, rfl⟩
      go_wp2_with fail
      refine (MK.out _ hR.out).mono ?_
      rintro e w1 ⟨rfl, rfl⟩
      go_wp2_with fail
      refine (error_any 0 0 _ hE).mono ?_
      rintro e w1 ⟨rfl, hb1⟩
      have hR1 := hide (hR.out.below hb1)
      go_wp2_with fail
      refine (RI.out _).mono ?_
      rintro e w2 ⟨rfl, rfl⟩
      go_wp2_with fail
      refine (CK.out _ hR1.out).mono ?_
      rintro e w2 ⟨rfl, rfl⟩
      go_wp2_with fail
      refine (error_any 1 1 _ (hE.below hb1 hE.pos)).mono ?_
      rintro e w2 ⟨rfl, hb2⟩
      have hb3 := hb1.trans (hb2.mono hb1.size)
      clear hb1 hb2
      go_wp2
      go_ret
      exact ⟨rfl, hb3⟩
    · obtain ⟨q, hq⟩ : ∃ q, q = (x == t) := ⟨_, rfl⟩
      have CK : Hid (∀ W, IntRow W a len zs → Calls Tryd.prog 34 #[.int .i64 key, .slice a len cap, .int .i64 t] W fun e w' => e = .returned (.tuple #[.bool q, .nilIface]) ∧ W = w') := by
        intro W hW
        exact tagCheck_eq (c := 0) (by simp [chkN, hm, ht, hq, hx]) hW
      have hq2 : (t == x) = q := by rw [hq, Bool.eq_iff_iff]; simp only [beq_iff_eq]; exact eq_comm
      rw [ht] at RI
      clear hkey hall hm ht hx hr hq
      go_enter Tryd.func9, Tryd.ntmps9
      go_wp2_with fail
      refine RT.out.mono ?_
      rintro e w1 ⟨rfl, rfl⟩
      go_wp2_with fail
      refine (RG.out _ hR.out).mono ?_
      rintro e w1 ⟨rfl, rfl⟩
      go_wp2_with fail
      refine (MK.out _ hR.out).mono ?_
      rintro e w1 ⟨rfl, rfl⟩
      go_wp2_with fail
      refine (error_any 0 0 _ hE).mono ?_
      rintro e w1 ⟨rfl, hb1⟩
      have hR1 := hide (hR.out.below hb1)
      go_wp2_with fail
      refine (RI.out _).mono ?_
      rintro e w2 ⟨rfl, rfl⟩
      go_wp2_with fail
      refine (CK.out _ hR1.out).mono ?_
      rintro e w2 ⟨rfl, rfl⟩
      go_wp2_with fail
      refine (error_any 0 0 _ (hE.below hb1 hE.pos)).mono ?_
      rintro e w2 ⟨rfl, hb2⟩
      have hb3 := hb1.trans (hb2.mono hb1.size)
      clear hb1 hb2
      go_wp2
      go_ret
      exact ⟨rfl, hb3⟩
  · obtain ⟨c, hc⟩ : ∃ c, mkE key zs = c := ⟨_, rfl⟩
    have hc0 : c ≠ 0 := by rw [← hc]; exact hm
    have MK : Hid (∀ W, IntRow W a len zs → Calls Tryd.prog 33 #[.int .i64 key, .slice a len cap] W fun e w' => e = .returned (.tuple #[.int .i64 0, errV c]) ∧ W = w') := by
      intro W hW
      exact tagMake_eq (by simp [mkV, hm]) hc hW
    have CK : Hid (∀ W, IntRow W a len zs → Calls Tryd.prog 34 #[.int .i64 key, .slice a len cap, .int .i64 t] W fun e w' => e = .returned (.tuple #[.bool false, errV c]) ∧ W = w') := by
      intro W hW
      exact tagCheck_eq (by simp [chkN, hc, hc0]) hW
    have t1 : (c == 0) = false := beq_eq_false_iff_ne.2 hc0
    rw [hc] at RT
    have hR := hide hr
    clear hm hc hc0 hx hr
    go_enter Tryd.func9, Tryd.ntmps9
    go_wp2_with fail
    refine RT.out.mono ?_
    rintro e w1 ⟨rfl, rfl⟩
    go_wp2_with fail
    refine (MK.out _ hR.out).mono ?_
    rintro e w1 ⟨rfl, rfl⟩
    go_wp2_with fail
    refine (error_any c c _ hE).mono ?_
    rintro e w1 ⟨rfl, hb1⟩
    have hR1 := hide (hR.out.below hb1)
    go_wp2_with fail
    refine (RI.out _).mono ?_
    rintro e w2 ⟨rfl, rfl⟩
    go_wp2_with fail
    refine (CK.out _ hR1.out).mono ?_
    rintro e w2 ⟨rfl, rfl⟩
    go_wp2_with fail
    refine (error_any c c _ (hE.below hb1 hE.pos)).mono ?_
    rintro e w2 ⟨rfl, hb2⟩
    have hb3 := hb1.trans (hb2.mono hb1.size)
    clear hb1 hb2
    go_wp2
    go_ret
    exact ⟨rfl, hb3⟩
end Go.Proofs.YtnfgeidiglldkaaDoor
