/- spent: Check, Spend by contracts. spent: Spend by contract. -/
import Derived.Test.YtjbpkmmpbhngbaaGreatDoorSpMore
import Derived.Deep.RegionHeld3
namespace Go.Proofs.YtjbpkmmpbhngbaaGreatDoor
open Go.RowKit

/-- the fault of some behind some -/
def spF (pre : List (Int × Int)) : List (Int × Int) → Int
  | [] => 0
  | x :: l => if (inB x.1 && tmB x.2) = false then 1 else if pre.any (fun y => y.1 == x.1) = true then 7 else spF (pre ++ [x]) l
/-- the fault of some -/
def spE (zs : List (Int × Int)) : Int := if 16 < zs.length then 4 else spF [] zs
theorem drop_consP (zs : List (Int × Int)) (k : Nat) (hk : k < zs.length) : zs.drop k = zs.getD k (0, 0) :: zs.drop (k + 1) := by
  rw [List.drop_eq_getElem_cons hk]; simp [List.getD, List.getElem?_eq_getElem hk]
theorem psl_take {w : World} {b off c k : Nat} {zs : List (Int × Int)} (hl : zs.length ≤ 1000) (hk : k ≤ zs.length) (hc : zs.length ≤ c) (hb : b < w.heap.size) (h : PC w b off zs) : PSl w (.slice (some ⟨b, off, none⟩) k c) (zs.take k) := by
  have hlen : (zs.take k).length = k := by rw [List.length_take]; omega
  refine ⟨by omega, .inr ⟨b, off, c, by rw [hlen], by omega, hb, fun j hj => ?_⟩⟩
  have := h j (by omega)
  have e : (zs.take k).getD j (0, 0) = zs.getD j (0, 0) := by
    simp only [List.getD]
    rw [List.getElem?_take_of_lt (by omega)]
  rw [e]; exact this
end Go.Proofs.YtjbpkmmpbhngbaaGreatDoor

namespace Go.Proofs.YtjbpkmmpbhngbaaGreatDoor
open Go.RowKit

theorem ownsRow_le' {w : World} {base base' size n : Nat} {e : TypeId} {v : Value} {xs : List Value} (h : w.ownsRow base e size v n xs) (hb : base' ≤ base) : w.ownsRow base' e size v n xs := by
  refine ⟨h.1, ?_⟩
  rcases h.2 with h2 | ⟨g, cap, cur, h1, h2, h3⟩
  · exact .inl h2
  · exact .inr ⟨g, cap, cur, h1, Nat.le_trans hb h2, h3⟩
end Go.Proofs.YtjbpkmmpbhngbaaGreatDoor
