/- foldref1: Ring, Time, Turn, Key by contracts. -/
import Derived.Test.YtmbklchoplgdlaaDoorRef1
import Derived.Test.YtmbklchoplgdlaaDoorRingOf
import Derived.Test.YtmbklchoplgdlaaDoorRingTurn
import Derived.Test.YtmbklchoplgdlaaDoorRingKey
import Derived.Test.YtmbklchoplgdlaaDoorTime
import Derived.Test.YtmbklchoplgdlaaDoorRTime
namespace Go.Proofs.YtmbklchoplgdlaaDoor
open Go.RowKit

theorem rRing (e k o : Int) (w : World) : Calls Tryd.prog 36 #[.agg #[.int .i64 e, .int .i64 k, .int .i64 o]] w fun r w' => r = .returned (.int .i64 (ringE e k o)) ∧ Below w.heap.size w w' := by
  have K := hide (fun W => rIn k W)
  have O := hide (fun W => rIn o W)
  have hc : e < 0 ∨ (0 ≤ e ∧ 100 < e) ∨ (0 ≤ e ∧ e ≤ 100) := by omega
  rcases hc with h | ⟨h1, h2⟩ | ⟨h1, h2⟩
  · rw [show ringE e k o = 1 by simp [ringE, show epB e = false from epB_false.2 (by omega)]]
    go_enter Tryd.func36, Tryd.ntmps36
    go_wp2_with fail
    refine (K.out _).mono ?_
    rintro e w101 ⟨rfl, rfl⟩
    go_wp2_with fail
    refine (O.out _).mono ?_
    rintro e w102 ⟨rfl, rfl⟩
    go_wp2
    go_ret
    exact ⟨rfl, by go_grown⟩
  · rw [show ringE e k o = 1 by simp [ringE, show epB e = false from epB_false.2 (by omega)]]
    go_enter Tryd.func36, Tryd.ntmps36
    go_wp2_with fail
    refine (K.out _).mono ?_
    rintro e w101 ⟨rfl, rfl⟩
    go_wp2_with fail
    refine (O.out _).mono ?_
    rintro e w102 ⟨rfl, rfl⟩
    go_wp2
    go_ret
    exact ⟨rfl, by go_grown⟩
  · have he := epB_true.2 ⟨h1, h2⟩
    cases hk : inB k
    · rw [show ringE e k o = 1 by simp [ringE, hk]]
      rw [hk] at K
      clear hk he
      go_enter Tryd.func36, Tryd.ntmps36
      go_wp2_with fail
      refine (K.out _).mono ?_
      rintro e w101 ⟨rfl, rfl⟩
      go_wp2_with fail
      refine (O.out _).mono ?_
      rintro e w102 ⟨rfl, rfl⟩
      go_wp2
      go_ret
      exact ⟨rfl, by go_grown⟩
    · rw [hk] at K
      cases ho : inB o
      · rw [show ringE e k o = 1 by simp [ringE, ho]]
        rw [ho] at O
        clear hk ho he
        go_enter Tryd.func36, Tryd.ntmps36
        go_wp2_with fail
        refine (K.out _).mono ?_
        rintro e w101 ⟨rfl, rfl⟩
        go_wp2_with fail
        refine (O.out _).mono ?_
        rintro e w102 ⟨rfl, rfl⟩
        go_wp2
        go_ret
        exact ⟨rfl, by go_grown⟩
      · rw [ho] at O
        by_cases h0 : e = 0
        · by_cases h3 : o = 0
          · rw [show ringE e k o = 0 by unfold ringE; rw [he, hk, ho]; simp [h0, h3]]
            clear he hk ho
            subst h0; subst h3
            go_enter Tryd.func36, Tryd.ntmps36
            go_wp2_with fail
            refine (K.out _).mono ?_
            rintro e w101 ⟨rfl, rfl⟩
            go_wp2_with fail
            refine (O.out _).mono ?_
            rintro e w102 ⟨rfl, rfl⟩
            go_wp2
            go_ret
            exact ⟨rfl, by go_grown⟩
          · rw [show ringE e k o = 3 by unfold ringE; rw [he, hk, ho]; simp [h0, h3]]
            have t1 : (o != 0) = true := bne_iff_ne.2 h3
            clear he hk ho h3
            subst h0
            go_enter Tryd.func36, Tryd.ntmps36
            go_wp2_with fail
            refine (K.out _).mono ?_
            rintro e w101 ⟨rfl, rfl⟩
            go_wp2_with fail
            refine (O.out _).mono ?_
            rintro e w102 ⟨rfl, rfl⟩
            go_wp2
            go_ret
            exact ⟨rfl, by go_grown⟩
        · rw [show ringE e k o = 0 by unfold ringE; rw [he, hk, ho]; simp [h0]]
          have t1 : (e == 0) = false := beq_eq_false_iff_ne.2 h0
          clear he hk ho h0
          go_enter Tryd.func36, Tryd.ntmps36
          go_wp2_with fail
          refine (K.out _).mono ?_
          rintro e w101 ⟨rfl, rfl⟩
          go_wp2_with fail
          refine (O.out _).mono ?_
          rintro e w102 ⟨rfl, rfl⟩
          go_wp2
          go_ret
          exact ⟨rfl, by go_grown⟩
theorem rRing_eq {e k o c : Int} (h : ringE e k o = c) (w : World) : Calls Tryd.prog 36 #[.agg #[.int .i64 e, .int .i64 k, .int .i64 o]] w fun r w' => r = .returned (.int .i64 c) ∧ Below w.heap.size w w' := by
  have g := rRing e k o w
  rwa [h] at g

theorem rTag1 {key x : Int} (hk : 0 ≤ key ∧ key < 999983) (hx : 0 ≤ x ∧ x < 999983) (W : World) (b : Nat) (h : ObjAt W b 3 [.int .i64 x]) :
    Calls Tryd.prog 68 #[.int .i64 key, .slice (some ⟨b, 0, none⟩) 1 1] W fun e w' => e = .returned (.int .i64 (tagOf key [x])) ∧ W = w' := by
  refine rTag_row key [x] b 0 1 W hk (by simpa using hx) (by simp) ?_
  intro i hi
  match i, hi with
  | 0, _ => simpa using h.cell (i := 0) rfl
theorem rTag1c {key x : Int} (hk : 0 ≤ key ∧ key < 999983) (hx : 0 ≤ x ∧ x < 999983) (W : World) (b : Nat) (h : W.cell? ⟨b, 0, none⟩ = some (.int .i64 x)) :
    Calls Tryd.prog 68 #[.int .i64 key, .slice (some ⟨b, 0, none⟩) 1 1] W fun e w' => e = .returned (.int .i64 (tagOf key [x])) ∧ W = w' := by
  refine rTag_row key [x] b 0 1 W hk (by simpa using hx) (by simp) ?_
  intro i hi
  match i, hi with
  | 0, _ => simpa using h
/-- the ring turned, of one that is right; the fault -/
def turnN (e k : Int) : Int × Int × Int × Int := if 100 ≤ e then (0, 0, 0, 4) else (e + 1, tagOf k [e + 1], k, 0)
theorem ringTurn {e k o t1 t2 t3 c : Int} (h : ringE e k o = 0) (hN : turnN e k = (t1, t2, t3, c)) (w : World) :
    Calls Tryd.prog 14 #[.agg #[.int .i64 e, .int .i64 k, .int .i64 o]] w fun r w' => r = .returned (.tuple #[.agg #[.int .i64 t1, .int .i64 t2, .int .i64 t3], errV c]) ∧ Below w.heap.size w w' := by
  obtain ⟨h1, _, _, _⟩ := ringE_ok h
  by_cases he : e < 100
  · unfold turnN at hN
    rw [if_neg (by omega)] at hN
    simp only [Prod.mk.injEq] at hN
    obtain ⟨rfl, rfl, rfl, rfl⟩ := hN
    exact ringTurn_ok h he w
  · obtain rfl : e = 100 := by omega
    unfold turnN at hN
    rw [if_pos (by omega)] at hN
    simp only [Prod.mk.injEq] at hN
    obtain ⟨rfl, rfl, rfl, rfl⟩ := hN
    exact ringTurn_full h w
theorem rKey (e k o ep : Int) (w : World) (h0 : 0 ≤ e) (h1 : e ≤ 100) (_h2 : 0 ≤ ep) (_h3 : ep ≤ 100) :
    Calls Tryd.prog 67 #[.agg #[.int .i64 e, .int .i64 k, .int .i64 o], .int .i64 ep] w fun r w' => r = .returned (.tuple #[.int .i64 (ringOfN e k o ep).1, .int .i64 (ringOfN e k o ep).2]) ∧ Below w.heap.size w w' := by
  by_cases g0 : ep = e
  · subst g0
    rw [show ringOfN ep k o ep = (k, 0) by simp [ringOfN]]
    go_enter Tryd.func67, Tryd.ntmps67
    go_wp2
    go_ret2
    exact ⟨rfl, by go_grown⟩
  · have t0 : (ep == e) = false := beq_eq_false_iff_ne.2 g0
    by_cases g2 : e < ep
    · rw [show ringOfN e k o ep = (0, 5) by unfold ringOfN; rw [if_neg (by omega), if_neg (by omega), if_pos g2]]
      clear g0
      go_enter Tryd.func67, Tryd.ntmps67
      go_wp2
      go_ret2
      exact ⟨rfl, by go_grown⟩
    · by_cases g1 : ep = e - 1
      · rw [show ringOfN e k o ep = (o, 0) by unfold ringOfN; rw [if_neg (by omega), if_pos (by omega)]]
        have t1 : (ep == e - 1) = true := by simp [g1]
        clear g0 g1
        go_enter Tryd.func67, Tryd.ntmps67
        go_wp2
        go_ret2
        exact ⟨rfl, by go_grown⟩
      · have t1 : (ep == e - 1) = false := beq_eq_false_iff_ne.2 g1
        rw [show ringOfN e k o ep = (0, 9) by unfold ringOfN; rw [if_neg (by omega), if_neg (by omega), if_neg g2]]
        clear g0 g1
        go_enter Tryd.func67, Tryd.ntmps67
        go_wp2
        go_ret2
        exact ⟨rfl, by go_grown⟩
theorem rKey_eq {e k o ep v c : Int} (h : ringOfN e k o ep = (v, c)) (h0 : 0 ≤ e) (h1 : e ≤ 100) (h2 : 0 ≤ ep) (h3 : ep ≤ 100) (w : World) :
    Calls Tryd.prog 67 #[.agg #[.int .i64 e, .int .i64 k, .int .i64 o], .int .i64 ep] w fun r w' => r = .returned (.tuple #[.int .i64 v, .int .i64 c]) ∧ Below w.heap.size w w' := by
  have g := rKey e k o ep w h0 h1 h2 h3
  rwa [h] at g
end Go.Proofs.YtmbklchoplgdlaaDoor
