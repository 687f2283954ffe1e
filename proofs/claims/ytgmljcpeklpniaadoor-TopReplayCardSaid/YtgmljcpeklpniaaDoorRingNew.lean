/- ring: New by contract. -/
import Derived.Test.YtgmljcpeklpniaaDoorRing
import Derived.Deep.RegionHeld3
namespace Go.Proofs.YtgmljcpeklpniaaDoor
open Go.RowKit

theorem tagOf1c {key x : Int} (hk : 0 ≤ key ∧ key < 999983) (hx : 0 ≤ x ∧ x < 999983) (W : World) (b : Nat) (h : W.cell? ⟨b, 0, none⟩ = some (.int .i64 x)) :
    Calls Tryd.prog 37 #[.int .i64 key, .slice (some ⟨b, 0, none⟩) 1 1] W fun e w' => e = .returned (.int .i64 (tagOf key [x])) ∧ W = w' := by
  refine tagOf_row key [x] b 0 1 W hk (by simpa using hx) (by simp) ?_
  intro i hi
  match i, hi with
  | 0, _ => simpa using h
/-- the ring of a seed; the fault -/
def ringK (seed : Int) : Int := if inB seed then tagOf seed [0] else 0
def ringNE (seed : Int) : Int := if inB seed then 0 else 1
theorem ringNew_bad {seed : Int} (h : inB seed = false) (w : World) :
    Calls Tryd.prog 15 #[.int .i64 seed] w fun r w' => r = .returned (.tuple #[.agg #[.int .i64 0, .int .i64 0, .int .i64 0], .iface 60 (.int .i64 1)]) ∧ Below w.heap.size w w' := by
  have T := hide (fun W => tagIn_eq h W)
  clear h
  go_enter Tryd.func15, Tryd.ntmps15
  go_wp2_with fail
  refine (T.out _).mono ?_
  rintro e w101 ⟨rfl, rfl⟩
  go_wp2
  exact bodyPost_ret (v := .tuple #[.agg #[.int .i64 0, .int .i64 0, .int .i64 0], .iface 60 (.int .i64 1)]) (by simp [results, Tryd.results15, go_sem, *]) rfl ⟨rfl, by go_grown⟩
theorem ringNew_ok {seed : Int} (h : inB seed = true) (w : World) :
    Calls Tryd.prog 15 #[.int .i64 seed] w fun r w' => r = .returned (.tuple #[.agg #[.int .i64 0, .int .i64 (tagOf seed [0]), .int .i64 0], .nilIface]) ∧ Below w.heap.size w w' := by
  have T := hide (fun W => tagIn_eq h W)
  have O := hide (tagOf1c (inB_true.1 h) (show (0 : Int) ≤ 0 ∧ (0 : Int) < 999983 by omega))
  clear h
  go_enter Tryd.func15, Tryd.ntmps15
  go_wp2_with fail
  refine (T.out _).mono ?_
  rintro e w101 ⟨rfl, rfl⟩
  go_wp2_with fail
  refine (O.out _ _ (by simp)).mono ?_
  rintro e w102 ⟨rfl, rfl⟩
  go_wp2
  exact bodyPost_ret (v := .tuple #[.agg #[.int .i64 0, .int .i64 (tagOf seed [0]), .int .i64 0], .nilIface]) (by simp [results, Tryd.results15, go_sem, *]) rfl ⟨rfl, by go_grown⟩
theorem ringNew_key {seed : Int} (_h : inB seed = true) : ringE 0 (tagOf seed [0]) 0 = 0 := by
  have h1 := tagOf_in seed [0]
  unfold ringE
  rw [show epB 0 = true by decide, inB_true.2 h1, show inB 0 = true by decide]
  simp
end Go.Proofs.YtgmljcpeklpniaaDoor
