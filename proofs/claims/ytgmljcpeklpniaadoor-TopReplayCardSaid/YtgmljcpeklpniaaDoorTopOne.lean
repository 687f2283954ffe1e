/- foldtop: one by contract. -/
import Derived.Test.YtgmljcpeklpniaaDoorTagCheck
import Derived.Test.YtgmljcpeklpniaaDoorObj4
namespace Go.Proofs.YtgmljcpeklpniaaDoor
open Go.RowKit
theorem introw_two {W : World} {b : Nat} {x y : Int} (h : ObjAt W b 3 [.int .i64 x, .int .i64 y]) (hx : (Lit.int .i64 x).wf = true) (hy : (Lit.int .i64 y).wf = true) : IntRow W (some ⟨b, 0, none⟩) 2 [x, y] := by
  refine ⟨rfl, by simp [maxLen], ?_, .inr ⟨b, 0, rfl, h.lt, fun i j hi hj => ?_⟩⟩
  · intro n hn
    simp only [List.mem_cons, List.not_mem_nil, or_false] at hn
    rcases hn with rfl | rfl <;> assumption
  · obtain rfl : j = 0 := by omega
    match i, hi with
    | 0, _ => simpa using h.cell (i := 0) rfl
    | 1, _ => simpa using h.cell (i := 1) rfl
theorem topOne (w : World) : Calls Tryd.prog 14 #[] w fun e w' => e = .returned (.bool true) ∧ Below w.heap.size w w' := by
  obtain ⟨v, hv⟩ : ∃ v, v = tagOf 3 [4, 5] := ⟨_, rfl⟩
  have hi : inB v = true := by rw [hv]; exact inB_true.2 (tagOf_in 3 [4, 5])
  have M : Hid (∀ W b, ObjAt W b 3 [.int .i64 4, .int .i64 5] → Calls Tryd.prog 34 #[.int .i64 3, .slice (some ⟨b, 0, none⟩) 2 2] W fun e w' => e = .returned (.tuple #[.int .i64 v, .nilIface]) ∧ W = w') := by
    intro W b h
    exact tagMake_eq (c := 0) (by rw [hv]; rfl) (by decide) (introw_two h (by decide) (by decide))
  have C : Hid (∀ W b, ObjAt W b 3 [.int .i64 4, .int .i64 5] → Calls Tryd.prog 35 #[.int .i64 3, .slice (some ⟨b, 0, none⟩) 2 2, .int .i64 v] W fun e w' => e = .returned (.tuple #[.bool true, .nilIface]) ∧ W = w') := by
    intro W b h
    exact tagCheck_eq (c := 0) (by unfold chkN; rw [if_pos (by decide), if_pos hi, ← hv]; simp) (introw_two h (by decide) (by decide))
  clear hv hi
  go_enter Tryd.func14, Tryd.ntmps14
  go_wp2_with fail
  refine (M.out _ _ (objNew (by simp))).mono ?_
  rintro e w1 ⟨rfl, rfl⟩
  go_wp2_with fail
  refine (C.out _ _ (objNew (by simp))).mono ?_
  rintro e w2 ⟨rfl, rfl⟩
  go_wp2
  go_ret
  exact ⟨rfl, by go_grown⟩
end Go.Proofs.YtgmljcpeklpniaaDoor
