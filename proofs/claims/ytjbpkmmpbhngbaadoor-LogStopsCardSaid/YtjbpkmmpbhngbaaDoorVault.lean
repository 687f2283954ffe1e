/- vault: New, Spend, Sync, Crash, Has, Sure by contracts. -/
import Derived.Test.YtjbpkmmpbhngbaaDoorSpMore
namespace Go.Proofs.YtjbpkmmpbhngbaaDoor
open Go.RowKit

/-- A slice of pairs that does not lie in block b. -/
def VR (w : World) (b : Nat) (v : Value) (zs : List (Int × Int)) : Prop := PSl w v zs ∧ v.ownBlock ≠ some b
theorem PSl.kept {S : List Nat} {w w' : World} {v : Value} {zs : List (Int × Int)} (h : PSl w v zs) (hk : Kept S w w') (hn : ∀ x, x ∈ S → v.ownBlock ≠ some x) : PSl w' v zs := by
  refine ⟨h.1, ?_⟩
  rcases h.2 with h | ⟨b, off, c, rfl, h2, h3, h4⟩
  · exact .inl h
  · have hb : b ∉ S := fun hx => hn b hx rfl
    exact .inr ⟨b, off, c, rfl, h2, Nat.lt_of_lt_of_le h3 hk.size, fun j hj => ⟨(hk.cell (p := ⟨b, off + j * 2, none⟩) h3 hb).trans (h4 j hj).1, (hk.cell (p := ⟨b, off + j * 2 + 1, none⟩) h3 hb).trans (h4 j hj).2⟩⟩
theorem VR.kept {w w' : World} {b : Nat} {v : Value} {zs : List (Int × Int)} (h : VR w b v zs) (hk : Kept [b] w w') : VR w' b v zs :=
  ⟨h.1.kept hk (fun x hx => by simp at hx; subst hx; exact h.2), h.2⟩
theorem VR.below {w w' : World} {b : Nat} {v : Value} {zs : List (Int × Int)} (h : VR w b v zs) (hB : Below w.heap.size w w') : VR w' b v zs := ⟨h.1.below hB, h.2⟩
theorem own_vr {w : World} {base b : Nat} {e : TypeId} {v : Value} {zs : List (Int × Int)} (h : w.ownsRow base e 2 v zs.length (flat zs)) (hl : zs.length ≤ 1000) (hb : b < base) : VR w b v zs :=
  ⟨own_psl h hl, fun he => by have := (h.lt b he).1; omega⟩
theorem VR.nil (w : World) (b : Nat) : VR w b (.slice none 0 0) [] := ⟨⟨by simp, .inl ⟨rfl, none, 0, rfl⟩⟩, by simp [Value.ownBlock]⟩
/-- what is told of a number -/
def vltN (zs : List (Int × Int)) (n : Int) : Bool × Int := if inB n then (zs.any (fun x => x.1 == n), 0) else (false, 1)
end Go.Proofs.YtjbpkmmpbhngbaaDoor
