/- tag.In, tag.Of, tag.Make by contracts. -/
import Derived.Test.YtjbpkmmpbhngbaaDoorErrV
import Derived.Test.YtjbpkmmpbhngbaaDoorPlain
import Derived.Test.YtjbpkmmpbhngbaaDoorOpen
import Derived.Test.YtjbpkmmpbhngbaaDoorObj
import Derived.Handy
import Derived.Deep.QuietTactic
import Derived.BigQuiet
namespace Go.Proofs.YtjbpkmmpbhngbaaDoor
open Go.RowKit

def inB (n : Int) : Bool := decide (0 ≤ n ∧ n < 999983)
theorem inB_true {n : Int} : inB n = true ↔ 0 ≤ n ∧ n < 999983 := by simp [inB]
theorem inB_false {n : Int} : inB n = false ↔ n < 0 ∨ 999983 ≤ n := by simp [inB]; omega

theorem tagIn (n : Int) (w : World) : Calls Tryd.prog 20 #[.int .i64 n] w fun e w' => e = .returned (.bool (inB n)) ∧ w = w' := by
  have hc : n < 0 ∨ (0 ≤ n ∧ 999983 ≤ n) ∨ (0 ≤ n ∧ n < 999983) := by omega
  rcases hc with h | ⟨h1, h2⟩ | ⟨h1, h2⟩
  all_goals
    go_enter Tryd.func20, Tryd.ntmps20
    go_wp2
    go_ret
    exact ⟨retB (by first | exact (decide_eq_true (by omega)).symm | exact (decide_eq_false (by omega)).symm | (simp only [inB, decide_eq_decide]; omega)), rfl⟩

theorem take_snoc_getD (zs : List Int) (k : Nat) (h : k < zs.length) : zs.take (k + 1) = zs.take k ++ [zs.getD k 0] := by
  rw [List.take_succ_eq_append_getElem h]; simp [List.getD, h]

/-- the fault of a key and numbers -/
def mkE (key : Int) (zs : List Int) : Int := if inB key = false then 1 else if 12 < zs.length then 4 else if zs.all inB then 0 else 1
/-- what Make tells -/
def mkV (key : Int) (zs : List Int) : Int := if mkE key zs = 0 then tagOf key zs else 0

/-- In at a number of the list, wherever the answer is known -/
theorem tagIn_eq {n : Int} {v : Bool} (h : inB n = v) (w : World) : Calls Tryd.prog 20 #[.int .i64 n] w fun e w' => e = .returned (.bool v) ∧ w = w' := by
  have g := tagIn n w
  rwa [h] at g

theorem introw_nil (w : World) : IntRow w none 0 [] := ⟨rfl, by simp, by simp, .inl rfl⟩
end Go.Proofs.YtjbpkmmpbhngbaaDoor
