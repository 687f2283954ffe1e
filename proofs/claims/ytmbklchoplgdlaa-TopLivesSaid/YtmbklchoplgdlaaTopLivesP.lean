/- TopLives: what both walks want. -/
import Derived.Test.YtmbklchoplgdlaaTopOne
import Derived.Test.YtmbklchoplgdlaaLife
import Derived.Test.YtmbklchoplgdlaaBucketT
import Derived.Test.YtmbklchoplgdlaaOwn
import Derived.Test.YtmbklchoplgdlaaObj4
import Derived.Test.YtmbklchoplgdlaaOpen
namespace Go.Proofs.Ytmbklchoplgdlaa
open Go.RowKit

/-- the tags that were made -/
def tlJ (key n m : Int) (ts : List Int) : Prop := ∀ x ∈ ts, ∃ v, 0 ≤ v ∧ v < n * 30 + m ∧ x = tagOf key [v]
theorem tl_one (key x v c : Int) (hv : mkV key [x] = v) (hc : mkE key [x] = c) (hx : (Lit.int .i64 x).wf = true) (W : World) (b : Nat) (h : ObjAt W b 3 [.int .i64 x]) :
    Calls Try.prog 12 #[.int .i64 key, .slice (some ⟨b, 0, none⟩) 1 1] W fun e w' => e = .returned (.tuple #[.int .i64 v, errV c]) ∧ W = w' := by
  refine tagMake_eq hv hc ⟨rfl, by simp [maxLen], by simpa using hx, .inr ⟨b, 0, rfl, h.lt, fun i j hi hj => ?_⟩⟩
  obtain rfl : i = 0 := by omega
  obtain rfl : j = 0 := by omega
  simpa using h.cell (i := 0) rfl
theorem tl_new {key n m : Int} {ts : List Int} (h : tlJ key n m ts) (hk : 0 ≤ key ∧ key < 999983) (h0 : 0 ≤ n) (h1 : n ≤ 100) (h2 : 0 ≤ m) (h3 : m < 30) : tagOf key [n * 30 + m] ∉ ts := by
  intro hm
  obtain ⟨v, v0, v1, hv⟩ := h _ hm
  have := (tagOf_set key [n * 30 + m] 0 v (by simp) hk (by simp; omega) (by omega)).1 (by simpa using hv)
  simp at this; omega
theorem tl_snoc {key n m : Int} {ts : List Int} (h : tlJ key n m ts) (h0 : 0 ≤ n) (h2 : 0 ≤ m) : tlJ key n (m + 1) (ts ++ [tagOf key [n * 30 + m]]) := by
  intro x hx
  rcases List.mem_append.1 hx with hx | hx
  · obtain ⟨v, v0, v1, hv⟩ := h x hx; exact ⟨v, v0, by omega, hv⟩
  · simp at hx; exact ⟨n * 30 + m, by omega, by omega, hx⟩
theorem tl_up {key n m n' : Int} {ts : List Int} (h : tlJ key n m ts) (h3 : m ≤ 30) (hn : n < n') : tlJ key n' 0 ts := fun x hx => by
  obtain ⟨v, v0, v1, hv⟩ := h x hx; exact ⟨v, v0, by omega, hv⟩
theorem tl_app {w : World} {base : Nat} {e : TypeId} {v : Value} {ts : List Int} {n : Int} (h : w.ownsRow base e 1 v (ts.length + 1) (ts.map (Value.int .i64) ++ [.int .i64 n])) : w.ownsRow base e 1 v (ts ++ [n]).length ((ts ++ [n]).map (Value.int .i64)) := by
  simpa using h
theorem lifeS_eq {n m v c n' m' : Int} (hN : lifeS n m = (v, c, n', m')) (b : Nat) (w : World) (h : LifeAt w b n m) (h0 : 0 ≤ n) (h1 : n ≤ 100) :
    Calls Try.prog 10 #[.pointer (some ⟨b, 0, none⟩)] w fun e w' => e = .returned (.tuple #[.int .i64 v, errV c]) ∧ LifeAt w' b n' m' ∧ Kept [b] w w' := by
  have g := lifeStart b n m w h h0 h1
  rwa [hN] at g
theorem lifeN_eq {n m v1 v2 c m' : Int} (hN : lifeN n m = (v1, v2, c, m')) (b : Nat) (w : World) (h : LifeAt w b n m) (h0 : 0 ≤ n) (h1 : n ≤ 100) (h2 : 0 ≤ m) (h3 : m ≤ 30) :
    Calls Try.prog 11 #[.pointer (some ⟨b, 0, none⟩)] w fun e w' => e = .returned (.tuple #[.int .i64 v1, .int .i64 v2, errV c]) ∧ LifeAt w' b n m' ∧ Kept [b] w w' := by
  have g := lifeNext b n m w h h0 h1 h2 h3
  rwa [hN] at g
theorem buckH_self {s r h t : Int} (h1 : h ≤ s) : buckH s r h t t = h := by unfold buckH; rw [Int.sub_self, Int.mul_zero]; omega
theorem own_set4 {w : World} {base : Nat} {e : TypeId} {size : Nat} {v : Value} {n : Nat} {xs : List Value} {b : Nat} {v0 v1 v2 v3 : Value} (h : w.ownsRow base e size v n xs) (hb : b < base) :
    ((((w.setCell ⟨b, 0, none⟩ v0).setCell ⟨b, 1, none⟩ v1).setCell ⟨b, 2, none⟩ v2).setCell ⟨b, 3, none⟩ v3).ownsRow base e size v n xs :=
  ownsRow_setCell_below (ownsRow_setCell_below (ownsRow_setCell_below (ownsRow_setCell_below h hb _) hb _) hb _) hb _
end Go.Proofs.Ytmbklchoplgdlaa
