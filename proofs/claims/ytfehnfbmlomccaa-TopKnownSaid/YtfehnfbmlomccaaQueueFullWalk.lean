/- The walk of QueueFull. -/
import Derived.Test.YtfehnfbmlomccaaQDrop
import Derived.Test.YtfehnfbmlomccaaErr
namespace Go.Proofs.Ytfehnfbmlomccaa
open Go.RowKit

/-- the first m conns of shard 0 -/
def qfL (m : Nat) : List (Int × Int) := (List.range m).map fun (i : Nat) => ((0 : Int), (i : Int))
theorem qfL_succ (m : Nat) : qfL m ++ [(0, (m : Int))] = qfL (m + 1) := by unfold qfL; rw [List.range_succ, List.map_append]; rfl
theorem qfL_length (m : Nat) : (qfL m).length = m := by simp [qfL]
theorem qf_ok : ∀ m : Nat, m < 8 → offE (qfL m) 0 (m : Int) = 0 := by decide +kernel
theorem qf_full : ∀ m : Nat, m < 12 → 8 ≤ m → offE (qfL 8) 0 (m : Int) = 4 := by decide +kernel
theorem qf_idx : ∀ m : Nat, m < 9 → 1 ≤ m → idxP (cnP 0 0) (qfL m) = ((0 : Nat) : Int) := by decide +kernel
theorem qf_more : ∀ m : Nat, m < 9 → 1 ≤ m → offE ((qfL m).eraseIdx 0) 0 99 = 0 := by decide +kernel
/-- rows that began at B or later -/
def qB (B : Nat) (v : Value) : Prop := ∀ g, v.ownBlock = some g → B ≤ g
theorem qB.row {B : Nat} {w : World} {v v' : Value} (h : qB B v) (hr : rowOf w v v') (hB : B ≤ w.heap.size) : qB B v' := by
  intro g hg
  rcases hr with e | ⟨g', e, h'⟩
  · exact h g (by rw [← e]; exact hg)
  · rw [hg] at e
    have := Option.some.inj e
    omega
theorem qB.below {B b : Nat} {a w w' : World} {v : Value} (h : qB B v) (hb : B ≤ b) (ha : Below B a w) (hk : Kept (qS b v) w w') (hB : B ≤ w.heap.size) : Below B a w' :=
  ha.trans (hk.below hB (fun x hx => by
    rcases mem_qS.1 hx with rfl | hx
    · exact hb
    · exact h x hx))
theorem offer_len {zs : List (Int × Int)} {s n : Int} (h : offE zs s n = 0) : zs.length < 8 := by
  unfold offE at h
  split at h
  · exact absurd h (by decide)
  · split at h
    · exact absurd h (by decide)
    · split at h
      · exact absurd h (by decide)
      · omega
end Go.Proofs.Ytfehnfbmlomccaa
