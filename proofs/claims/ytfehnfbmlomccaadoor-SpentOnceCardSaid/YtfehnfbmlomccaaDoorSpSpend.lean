/- spent: Spend by contract. -/
import Derived.Test.YtfehnfbmlomccaaDoorSpCheck
namespace Go.Proofs.YtfehnfbmlomccaaDoor
open Go.RowKit

theorem ownsRow_le' {w : World} {base base' size n : Nat} {e : TypeId} {v : Value} {xs : List Value} (h : w.ownsRow base e size v n xs) (hb : base' ≤ base) : w.ownsRow base' e size v n xs := by
  refine ⟨h.1, ?_⟩
  rcases h.2 with h2 | ⟨g, cap, cur, h1, h2, h3⟩
  · exact .inl h2
  · exact .inr ⟨g, cap, cur, h1, Nat.le_trans hb h2, h3⟩
theorem spSpend_fault {zs : List (Int × Int)} {n u now c : Int} (hc : spE zs = c) (h0 : c ≠ 0) (v : Value) (w : World) (hv : PSl w v zs) :
    Calls Tryd.prog 32 #[v, .int .i64 n, .int .i64 u, .int .i64 now] w fun e w' => e = .returned (.tuple #[.slice none 0 0, errV c]) ∧ Below w.heap.size w w' := by
  have C := hide (spCheck hc v w hv)
  have t1 : (c != 0) = true := bne_iff_ne.2 h0
  clear hc h0 hv
  go_enter Tryd.func32, Tryd.ntmps32
  go_wp2_with fail
  refine C.out.mono ?_
  rintro e w1 ⟨rfl, hb1⟩
  go_wp2
  go_ret2
  exact ⟨rfl, hb1⟩
theorem spSpend_bad {zs : List (Int × Int)} {n u now c : Int} (h : spE zs = 0) (hc : spMoreE zs n u now = c) (h0 : c ≠ 0) (v : Value) (w : World) (hv : PSl w v zs) :
    Calls Tryd.prog 32 #[v, .int .i64 n, .int .i64 u, .int .i64 now] w fun e w' => e = .returned (.tuple #[.slice none 0 0, errV c]) ∧ Below w.heap.size w w' := by
  have C : Hid (Calls Tryd.prog 31 #[v] w fun e w' => e = .returned .nilIface ∧ Below w.heap.size w w') := spCheck (c := 0) h v w hv
  have M := hide (fun W (hW : Below w.heap.size w W) => spMore_bad hc h0 v W (hv.below hW))
  clear hc h0 hv h
  go_enter Tryd.func32, Tryd.ntmps32
  go_wp2_with fail
  refine C.out.mono ?_
  rintro e w1 ⟨rfl, hb1⟩
  go_wp2_with fail
  refine (M.out _ hb1).mono ?_
  rintro e w2 ⟨rfl, hb2⟩
  go_wp2
  go_ret2
  exact ⟨rfl, hb1.trans (hb2.mono hb1.size)⟩
theorem spSpend_ok {zs : List (Int × Int)} {n u now : Int} (h : spE zs = 0) (hc : spMoreE zs n u now = 0) (v : Value) (w : World) (hv : PSl w v zs) :
    Calls Tryd.prog 32 #[v, .int .i64 n, .int .i64 u, .int .i64 now] w fun e w' => ∃ v', e = .returned (.tuple #[v', .nilIface]) ∧ w'.ownsRow w.heap.size 67 2 v' (spDrop zs now ++ [(n, u)]).length (flat (spDrop zs now ++ [(n, u)])) ∧ Below w.heap.size w w' := by
  have C : Hid (Calls Tryd.prog 31 #[v] w fun e w' => e = .returned .nilIface ∧ Below w.heap.size w w') := spCheck (c := 0) h v w hv
  have M := hide (fun W (hW : Below w.heap.size w W) => spMore_ok hc v W (hv.below hW))
  generalize spDrop zs now ++ [(n, u)] = ys at M ⊢
  clear hc hv h
  go_enter Tryd.func32, Tryd.ntmps32
  go_wp2_with fail
  refine C.out.mono ?_
  rintro e w1 ⟨rfl, hb1⟩
  go_wp2_with fail
  refine (M.out _ hb1).mono ?_
  rintro e w2 ⟨v', rfl, hown, hb2⟩
  have hs := hb1.size
  have HO := hide (ownsRow_le' hown (show w.heap.size ≤ w1.heap.size + 1 by omega))
  have HB := hide (hb1.trans (hb2.mono hb1.size))
  clear hown hb1 hb2
  go_wp2
  go_ret2
  exact ⟨v', rfl, HO.out, HB.out⟩
end Go.Proofs.YtfehnfbmlomccaaDoor
