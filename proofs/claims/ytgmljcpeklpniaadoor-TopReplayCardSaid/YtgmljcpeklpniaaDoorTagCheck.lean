/- tag.Check by contract. -/
import Derived.Test.YtgmljcpeklpniaaDoorTag
namespace Go.Proofs.YtgmljcpeklpniaaDoor
open Go.RowKit

/-- what Check tells -/
def chkN (key : Int) (zs : List Int) (t : Int) : Bool × Int := if mkE key zs = 0 then (if inB t then (tagOf key zs == t, 0) else (false, 1)) else (false, mkE key zs)
theorem tagCheck (key t : Int) (a : Option Addr) (len cap : Nat) (zs : List Int) (w : World) (hr : IntRow w a len zs) :
    Calls Tryd.prog 35 #[.int .i64 key, .slice a len cap, .int .i64 t] w fun e w' => e = .returned (.tuple #[.bool (chkN key zs t).1, errV (chkN key zs t).2]) ∧ w = w' := by
  obtain ⟨v, c, hv, hc⟩ : ∃ v c, mkV key zs = v ∧ mkE key zs = c := ⟨_, _, rfl, rfl⟩
  have M := hide (tagMake_eq hv hc (cap := cap) hr)
  by_cases h0 : c = 0
  · subst h0
    have M' : Hid (Calls Tryd.prog 34 #[.int .i64 key, .slice a len cap] w fun e w' => e = .returned (.tuple #[.int .i64 v, .nilIface]) ∧ w = w') := M
    have e0 : tagOf key zs = v := by rw [← hv]; simp [mkV, hc]
    cases ht : inB t
    · have e1 : chkN key zs t = (false, 1) := by simp [chkN, hc, ht]
      rw [e1]
      have T := hide (fun W => tagIn_eq ht W)
      clear hv hc ht e0 e1 M hr
      go_enter Tryd.func35, Tryd.ntmps35
      go_wp2_with fail
      refine M'.out.mono ?_
      rintro e w1 ⟨rfl, rfl⟩
      go_wp2_with fail
      refine (T.out _).mono ?_
      rintro e w1 ⟨rfl, rfl⟩
      go_wp2
      go_ret2
      exact ⟨rfl, rfl⟩
    · have e1 : chkN key zs t = (v == t, 0) := by simp [chkN, hc, ht, e0]
      rw [e1]
      have T := hide (fun W => tagIn_eq ht W)
      clear hv hc ht e0 e1 M hr
      go_enter Tryd.func35, Tryd.ntmps35
      go_wp2_with fail
      refine M'.out.mono ?_
      rintro e w1 ⟨rfl, rfl⟩
      go_wp2_with fail
      refine (T.out _).mono ?_
      rintro e w1 ⟨rfl, rfl⟩
      go_wp2
      go_ret2
      exact ⟨rfl, rfl⟩
  · have e1 : chkN key zs t = (false, c) := by simp [chkN, hc, h0]
    have t1 : (c != 0) = true := bne_iff_ne.2 h0
    rw [e1]
    clear hv hc e1 hr h0
    go_enter Tryd.func35, Tryd.ntmps35
    go_wp2_with fail
    refine M.out.mono ?_
    rintro e w1 ⟨rfl, rfl⟩
    go_wp2
    go_ret2
    exact ⟨rfl, rfl⟩
theorem tagCheck_eq {key t c : Int} {v : Bool} {zs : List Int} (h : chkN key zs t = (v, c)) {a : Option Addr} {len cap : Nat} {w : World} (hr : IntRow w a len zs) :
    Calls Tryd.prog 35 #[.int .i64 key, .slice a len cap, .int .i64 t] w fun e w' => e = .returned (.tuple #[.bool v, errV c]) ∧ w = w' := by
  have g := tagCheck key t a len cap zs w hr
  rwa [h] at g
end Go.Proofs.YtgmljcpeklpniaaDoor
