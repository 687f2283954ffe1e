/- foldref1: In, Tag, Tagged by contracts. ring: Turn by contract. ring: Key by contract. foldref1: Time by contract. foldref1: Ring, Time, Turn, Key by contracts. foldref2.Server: its state; NewServer, Crash by contracts. foldref1: Tag of three numbers by contract. -/
import Derived.Test.YtlnghfmcofmkjaaGreatDoorRunAnswersProofM10
import Derived.IntWalk
import Derived.Deep.RegionHeld3
import Derived.Test.YtlnghfmcofmkjaaGreatDoorRSQ
import Derived.Test.YtlnghfmcofmkjaaGreatDoorRunAnswersProofM14
namespace Go.Proofs.YtlnghfmcofmkjaaGreatDoor
open Go.RowKit

theorem rIn (n : Int) (w : World) : Calls Tryz.prog 74 #[.int .i64 n] w fun e w' => e = .returned (.bool (inB n)) ∧ w = w' := by
  have hc : n < 0 ∨ (0 ≤ n ∧ 999983 ≤ n) ∨ (0 ≤ n ∧ n < 999983) := by omega
  rcases hc with h | ⟨h1, h2⟩ | ⟨h1, h2⟩
  all_goals
    go_enter Tryz.func74, Tryz.ntmps74
    go_wp2
    go_ret
    exact ⟨retB (by first | exact (decide_eq_true (by omega)).symm | exact (decide_eq_false (by omega)).symm | (simp only [inB, decide_eq_decide]; omega)), rfl⟩
theorem rIn_eq {n : Int} {v : Bool} (h : inB n = v) (w : World) : Calls Tryz.prog 74 #[.int .i64 n] w fun e w' => e = .returned (.bool v) ∧ w = w' := by
  have g := rIn n w
  rwa [h] at g

/-- the tag of the numbers of a row -/
theorem rTag_row (key : Int) (zs : List Int) (b off cap : Nat) (w : World) (hk : 0 ≤ key ∧ key < 999983) (hz : ∀ x ∈ zs, 0 ≤ x ∧ x < 999983) (hl : zs.length ≤ 1000)
    (hc : ∀ i, i < zs.length → w.cell? ⟨b, off + i, none⟩ = some (.int .i64 (zs.getD i 0))) :
    Calls Tryz.prog 17 #[.int .i64 key, .slice (some ⟨b, off, none⟩) zs.length cap] w fun e w' => e = .returned (.int .i64 (tagOf key zs)) ∧ w = w' := by
  obtain ⟨hk0, hk1⟩ := hk
  obtain ⟨n, hn⟩ : ∃ n, n = zs.length := ⟨_, rfl⟩
  have HC := hide hc
  clear hc
  rw [← hn] at hl ⊢
  have Hn := hide hn
  clear hn
  go_enter Tryz.func17, Tryz.ntmps17
  go_wp2
  go_loop [5, 6] (fun o i => ∃ k : Nat, i = .int .i64 k ∧ k ≤ n ∧ o = .int .i64 (tfold key (zs.take k))) (fun _ i => n - (intOf i).toNat)
  case atStart => exact ⟨0, rfl, by omega, rfl⟩
  case round =>
    obtain ⟨k, rfl, hk, rfl⟩ := hrel
    have hb := tfold_in key (zs.take k) ⟨hk0, hk1⟩
    obtain ⟨hb0, hb1⟩ := hb
    by_cases hlt : k < n
    · have hx := hz (zs.getD k 0) (by rw [List.getD, List.getElem?_eq_getElem (by rw [← Hn.out]; exact hlt)]; simp)
      have hcell := HC.out k (by rw [← Hn.out]; exact hlt)
      have hs : tfold key (zs.take (k + 1)) = (4099 * tfold key (zs.take k) + zs.getD k 0 + 1) % 999983 := by
        rw [take_snoc_getD zs k (by rw [← Hn.out]; exact hlt), tfold_snoc]; rfl
      have Hs := hide hs
      obtain ⟨x, hxe⟩ : ∃ x, x = zs.getD k 0 := ⟨_, rfl⟩
      rw [← hxe] at hx hcell
      have Hx := hide hxe
      obtain ⟨hx0, hx1⟩ := hx
      clear hs hxe hz
      go_wp2
      go_round
      case rel => exact ⟨k + 1, by go_num, by omega, by rw [Hs.out, ← Hx.out]⟩
      case measure => simp [intOf]; omega
    · obtain rfl : k = n := by omega
      have ht : tagOf key zs = (4099 * tfold key (zs.take k) + key) % 999983 := by
        rw [List.take_of_length_le (by rw [← Hn.out]; exact Nat.le_refl _)]; rfl
      have Ht := hide ht
      clear ht
      go_wp2
      go_ret
      exact ⟨retI Ht.out.symm, rfl⟩
theorem rTag_nil (key : Int) (a : Option Addr) (cap : Nat) (w : World) (hk : 0 ≤ key ∧ key < 999983) :
    Calls Tryz.prog 17 #[.int .i64 key, .slice a 0 cap] w fun e w' => e = .returned (.int .i64 (tagOf key [])) ∧ w = w' := by
  obtain ⟨hk0, hk1⟩ := hk
  go_enter Tryz.func17, Tryz.ntmps17
  go_wp2
  go_rounds 1
  go_ret
  exact ⟨rfl, rfl⟩
theorem rTag_any (key : Int) (a : Option Addr) (len cap : Nat) (zs : List Int) (w : World) (hk : 0 ≤ key ∧ key < 999983) (hr : IntRow w a len zs) (hz : ∀ x ∈ zs, 0 ≤ x ∧ x < 999983) (hl : len ≤ 1000) :
    Calls Tryz.prog 17 #[.int .i64 key, .slice a len cap] w fun e w' => e = .returned (.int .i64 (tagOf key zs)) ∧ w = w' := by
  obtain ⟨h1, _, _, h4⟩ := hr
  rcases h4 with h0 | ⟨b, off, rfl, _, hc⟩
  · subst h0
    obtain rfl : zs = [] := List.eq_nil_of_length_eq_zero h1
    exact rTag_nil key a cap w hk
  · subst h1
    exact rTag_row key zs b off cap w hk hz hl (fun i hi => by have := hc i 0 hi (by omega); simpa using this)
end Go.Proofs.YtlnghfmcofmkjaaGreatDoor

namespace Go.Proofs.YtlnghfmcofmkjaaGreatDoor
open Go.RowKit

theorem ringTurn_bad {e k o c : Int} (h : ringE e k o = c) (h0 : c ≠ 0) (w : World) :
    Calls Tryz.prog 91 #[.agg #[.int .i64 e, .int .i64 k, .int .i64 o]] w fun r w' => r = .returned (.tuple #[.agg #[.int .i64 0, .int .i64 0, .int .i64 0], errV c]) ∧ Below w.heap.size w w' := by
  have C := hide (ringCheck_eq h)
  have t1 : (c != 0) = true := bne_iff_ne.2 h0
  clear h h0
  go_enter Tryz.func91, Tryz.ntmps91
  go_wp2_with fail
  refine (C.out _).mono ?_
  rintro e w1 ⟨rfl, hb1⟩
  have hB1 : Below w.heap.size w w1 := by
    refine Below.trans ?_ (Below.mono hb1 ?_)
    · go_grown
    · first | omega | (simp; done) | (simp; omega)
  have hz1_0 : w.heap.size < w1.heap.size := by have := hb1.size; first | omega | (simp at this; omega)
  have hy1 : w.heap.size ≤ w1.heap.size := hB1.size
  obtain ⟨c1, d1⟩ := bcell hb1
  go_wp2
  exact bodyPost_ret (v := .tuple #[.agg #[.int .i64 0, .int .i64 0, .int .i64 0], errV c]) (by simp [results, Tryz.results91, go_sem, *]) rfl ⟨rfl, by go_grown⟩
theorem ringTurn_full {k o : Int} (h : ringE 100 k o = 0) (w : World) :
    Calls Tryz.prog 91 #[.agg #[.int .i64 100, .int .i64 k, .int .i64 o]] w fun r w' => r = .returned (.tuple #[.agg #[.int .i64 0, .int .i64 0, .int .i64 0], .iface 82 (.int .i64 4)]) ∧ Below w.heap.size w w' := by
  have C : Hid (∀ W, Calls Tryz.prog 110 #[.agg #[.int .i64 100, .int .i64 k, .int .i64 o]] W fun r w' => r = .returned .nilIface ∧ Below W.heap.size W w') := ringCheck_eq (c := 0) h
  clear h
  go_enter Tryz.func91, Tryz.ntmps91
  go_wp2_with fail
  refine (C.out _).mono ?_
  rintro e w1 ⟨rfl, hb1⟩
  have hB1 : Below w.heap.size w w1 := by
    refine Below.trans ?_ (Below.mono hb1 ?_)
    · go_grown
    · first | omega | (simp; done) | (simp; omega)
  have hz1_0 : w.heap.size < w1.heap.size := by have := hb1.size; first | omega | (simp at this; omega)
  have hy1 : w.heap.size ≤ w1.heap.size := hB1.size
  obtain ⟨c1, d1⟩ := bcell hb1
  go_wp2
  exact bodyPost_ret (v := .tuple #[.agg #[.int .i64 0, .int .i64 0, .int .i64 0], .iface 82 (.int .i64 4)]) (by simp [results, Tryz.results91, go_sem, *]) rfl ⟨rfl, by go_grown⟩
set_option maxHeartbeats 1000000 in
theorem ringTurn_ok {e k o : Int} (h : ringE e k o = 0) (he : e < 100) (w : World) :
    Calls Tryz.prog 91 #[.agg #[.int .i64 e, .int .i64 k, .int .i64 o]] w fun r w' => r = .returned (.tuple #[.agg #[.int .i64 (e + 1), .int .i64 (tagOf k [e + 1]), .int .i64 k], .nilIface]) ∧ Below w.heap.size w w' := by
  obtain ⟨h1, h2, h3, h4⟩ := ringE_ok h
  have C : Hid (∀ W, Calls Tryz.prog 110 #[.agg #[.int .i64 e, .int .i64 k, .int .i64 o]] W fun r w' => r = .returned .nilIface ∧ Below W.heap.size W w') := ringCheck_eq (c := 0) h
  have O := hide (tagOf1 h2 (show 0 ≤ e + 1 ∧ e + 1 < 999983 by omega))
  obtain ⟨e0, e1⟩ := h1
  have t1 : (e == 100) = false := beq_eq_false_iff_ne.2 (by omega)
  have t2 : IntKind.i64.wrap (e + 1) = e + 1 := IntWalk.i64_in _ (by omega)
  clear h h2 h3 h4
  go_enter Tryz.func91, Tryz.ntmps91
  go_wp2_with fail
  refine (C.out _).mono ?_
  rintro e w1 ⟨rfl, hb1⟩
  have hB1 : Below w.heap.size w w1 := by
    refine Below.trans ?_ (Below.mono hb1 ?_)
    · go_grown
    · first | omega | (simp; done) | (simp; omega)
  have hz1_0 : w.heap.size < w1.heap.size := by have := hb1.size; first | omega | (simp at this; omega)
  have hy1 : w.heap.size ≤ w1.heap.size := hB1.size
  obtain ⟨c1, d1⟩ := bcell hb1
  have x1 : ObjAt w1 w.heap.size 52 [.int .i64 e, .int .i64 k, .int .i64 o] := ObjAt.below (ObjAt.alloc (ObjAt.new _ _ _) _) hb1
  have q0 := x1.cell (i := 0) rfl
  have q1 := x1.cell (i := 1) rfl
  have x2 : ObjAt w1 (w.heap.size + 1) 52 [.int .i64 0, .int .i64 0, .int .i64 0] := ObjAt.below (objNew (by simp)) hb1
  have p0 := x2.cell (i := 0) rfl
  have f0 := x2.free 0
  have p1 := x2.cell (i := 1) rfl
  have f1 := x2.free 1
  have p2 := x2.cell (i := 2) rfl
  have f2 := x2.free 2
  have z1 := x2.lt
  have fz : ∀ o i, (w1.alloc o).drew.frozen? ⟨w.heap.size + 1, i, none⟩ = w1.frozen? ⟨w.heap.size + 1, i, none⟩ := fun o i => World.frozen?_alloc_old w1 o ⟨w.heap.size + 1, i, none⟩ (by show w.heap.size + 1 ≠ w1.heap.size; omega)
  clear x1 x2 c1 d1 hb1
  go_wp2_with fail
  go_region_held3 (fun w' => w'.cell? ⟨w.heap.size, 0, none⟩ = some (.int .i64 e) ∧ w'.cell? ⟨w.heap.size, 1, none⟩ = some (.int .i64 k)) (go_keep)
    (first | (go_at_call 44; refine (O.out _ _ ?_).mono ?_; (first | (with_reducible refine ObjAt.drew ?_; exact objNew (by simp)) | exact objNew (by simp)); rintro e1 w1 ⟨rfl, rfl⟩))
  all_goals go_wp2
  all_goals exact bodyPost_ret (v := .tuple #[.agg #[.int .i64 (e + 1), .int .i64 (tagOf k [e + 1]), .int .i64 k], .nilIface]) (by simp [results, Tryz.results91, go_sem, *]) rfl ⟨rfl, by go_grown⟩
theorem ringTurn_right {e k o : Int} (h : ringE e k o = 0) (he : e < 100) : ringE (e + 1) (tagOf k [e + 1]) k = 0 := by
  obtain ⟨h1, h2, h3, h4⟩ := ringE_ok h
  have h5 := tagOf_in k [e + 1]
  unfold ringE
  rw [epB_true.2 (by omega), inB_true.2 h5, inB_true.2 h2]
  simp only [Bool.and_self, if_true]
  rw [if_neg (by omega)]
/-- what Turn tells: the fault -/
def turnE (e k o : Int) : Int := if ringE e k o ≠ 0 then ringE e k o else if e = 100 then 4 else 0
end Go.Proofs.YtlnghfmcofmkjaaGreatDoor

namespace Go.Proofs.YtlnghfmcofmkjaaGreatDoor
open Go.RowKit

/-- what Key tells -/
def ringKeyN (e k o ep : Int) : Int × Int := if ringE e k o ≠ 0 then (0, ringE e k o) else if epB ep then ringOfN e k o ep else (0, 1)
end Go.Proofs.YtlnghfmcofmkjaaGreatDoor

namespace Go.Proofs.YtlnghfmcofmkjaaGreatDoor
open Go.RowKit

theorem rTime (n : Int) (w : World) : Calls Tryz.prog 40 #[.int .i64 n] w fun e w' => e = .returned (.bool (tmB n)) ∧ w = w' := by
  have hc : n < 0 ∨ (0 ≤ n ∧ 100000 < n) ∨ (0 ≤ n ∧ n ≤ 100000) := by omega
  rcases hc with h | ⟨h1, h2⟩ | ⟨h1, h2⟩
  all_goals
    go_enter Tryz.func40, Tryz.ntmps40
    go_wp2
    go_ret
    exact ⟨retB (by first | exact (decide_eq_true (by omega)).symm | exact (decide_eq_false (by omega)).symm | (simp only [tmB, decide_eq_decide]; omega)), rfl⟩
theorem rTime_eq {n : Int} {v : Bool} (h : tmB n = v) (w : World) : Calls Tryz.prog 40 #[.int .i64 n] w fun e w' => e = .returned (.bool v) ∧ w = w' := by
  have g := rTime n w
  rwa [h] at g
end Go.Proofs.YtlnghfmcofmkjaaGreatDoor

namespace Go.Proofs.YtlnghfmcofmkjaaGreatDoor
open Go.RowKit

theorem rRing (e k o : Int) (w : World) : Calls Tryz.prog 73 #[.agg #[.int .i64 e, .int .i64 k, .int .i64 o]] w fun r w' => r = .returned (.int .i64 (ringE e k o)) ∧ Below w.heap.size w w' := by
  have K := hide (fun W => rIn k W)
  have O := hide (fun W => rIn o W)
  have hc : e < 0 ∨ (0 ≤ e ∧ 100 < e) ∨ (0 ≤ e ∧ e ≤ 100) := by omega
  rcases hc with h | ⟨h1, h2⟩ | ⟨h1, h2⟩
  · rw [show ringE e k o = 1 by simp [ringE, show epB e = false from epB_false.2 (by omega)]]
    go_enter Tryz.func73, Tryz.ntmps73
    go_wp2_with fail
    refine (K.out _).mono ?_
    rintro e w101 ⟨rfl, rfl⟩
    go_wp2_with fail
    refine (O.out _).mono ?_
    rintro e w102 ⟨rfl, rfl⟩
    go_wp2
    go_ret
    exact ⟨rfl, by go_grown⟩
  · rw [show ringE e k o = 1 by simp [ringE, show epB e = false from epB_false.2 (by omega)]]
    go_enter Tryz.func73, Tryz.ntmps73
    go_wp2_with fail
    refine (K.out _).mono ?_
    rintro e w101 ⟨rfl, rfl⟩
    go_wp2_with fail
    refine (O.out _).mono ?_
    rintro e w102 ⟨rfl, rfl⟩
    go_wp2
    go_ret
    exact ⟨rfl, by go_grown⟩
  · have he := epB_true.2 ⟨h1, h2⟩
    cases hk : inB k
    · rw [show ringE e k o = 1 by simp [ringE, hk]]
      rw [hk] at K
      clear hk he
      go_enter Tryz.func73, Tryz.ntmps73
      go_wp2_with fail
      refine (K.out _).mono ?_
      rintro e w101 ⟨rfl, rfl⟩
      go_wp2_with fail
      refine (O.out _).mono ?_
      rintro e w102 ⟨rfl, rfl⟩
      go_wp2
      go_ret
      exact ⟨rfl, by go_grown⟩
    · rw [hk] at K
      cases ho : inB o
      · rw [show ringE e k o = 1 by simp [ringE, ho]]
        rw [ho] at O
        clear hk ho he
        go_enter Tryz.func73, Tryz.ntmps73
        go_wp2_with fail
        refine (K.out _).mono ?_
        rintro e w101 ⟨rfl, rfl⟩
        go_wp2_with fail
        refine (O.out _).mono ?_
        rintro e w102 ⟨rfl, rfl⟩
        go_wp2
        go_ret
        exact ⟨rfl, by go_grown⟩
      · rw [ho] at O
        by_cases h0 : e = 0
        · by_cases h3 : o = 0
          · rw [show ringE e k o = 0 by unfold ringE; rw [he, hk, ho]; simp [h0, h3]]
            clear he hk ho
            subst h0; subst h3
            go_enter Tryz.func73, Tryz.ntmps73
            go_wp2_with fail
            refine (K.out _).mono ?_
            rintro e w101 ⟨rfl, rfl⟩
            go_wp2_with fail
            refine (O.out _).mono ?_
            rintro e w102 ⟨rfl, rfl⟩
            go_wp2
            go_ret
            exact ⟨rfl, by go_grown⟩
          · rw [show ringE e k o = 3 by unfold ringE; rw [he, hk, ho]; simp [h0, h3]]
            have t1 : (o != 0) = true := bne_iff_ne.2 h3
            clear he hk ho h3
            subst h0
            go_enter Tryz.func73, Tryz.ntmps73
            go_wp2_with fail
            refine (K.out _).mono ?_
            rintro e w101 ⟨rfl, rfl⟩
            go_wp2_with fail
            refine (O.out _).mono ?_
            rintro e w102 ⟨rfl, rfl⟩
            go_wp2
            go_ret
            exact ⟨rfl, by go_grown⟩
        · rw [show ringE e k o = 0 by unfold ringE; rw [he, hk, ho]; simp [h0]]
          have t1 : (e == 0) = false := beq_eq_false_iff_ne.2 h0
          clear he hk ho h0
          go_enter Tryz.func73, Tryz.ntmps73
          go_wp2_with fail
          refine (K.out _).mono ?_
          rintro e w101 ⟨rfl, rfl⟩
          go_wp2_with fail
          refine (O.out _).mono ?_
          rintro e w102 ⟨rfl, rfl⟩
          go_wp2
          go_ret
          exact ⟨rfl, by go_grown⟩
theorem rRing_eq {e k o c : Int} (h : ringE e k o = c) (w : World) : Calls Tryz.prog 73 #[.agg #[.int .i64 e, .int .i64 k, .int .i64 o]] w fun r w' => r = .returned (.int .i64 c) ∧ Below w.heap.size w w' := by
  have g := rRing e k o w
  rwa [h] at g

theorem rTag1 {key x : Int} (hk : 0 ≤ key ∧ key < 999983) (hx : 0 ≤ x ∧ x < 999983) (W : World) (b : Nat) (h : ObjAt W b 3 [.int .i64 x]) :
    Calls Tryz.prog 17 #[.int .i64 key, .slice (some ⟨b, 0, none⟩) 1 1] W fun e w' => e = .returned (.int .i64 (tagOf key [x])) ∧ W = w' := by
  refine rTag_row key [x] b 0 1 W hk (by simpa using hx) (by simp) ?_
  intro i hi
  match i, hi with
  | 0, _ => simpa using h.cell (i := 0) rfl
theorem rTag1c {key x : Int} (hk : 0 ≤ key ∧ key < 999983) (hx : 0 ≤ x ∧ x < 999983) (W : World) (b : Nat) (h : W.cell? ⟨b, 0, none⟩ = some (.int .i64 x)) :
    Calls Tryz.prog 17 #[.int .i64 key, .slice (some ⟨b, 0, none⟩) 1 1] W fun e w' => e = .returned (.int .i64 (tagOf key [x])) ∧ W = w' := by
  refine rTag_row key [x] b 0 1 W hk (by simpa using hx) (by simp) ?_
  intro i hi
  match i, hi with
  | 0, _ => simpa using h
/-- the ring turned, of one that is right; the fault -/
def turnN (e k : Int) : Int × Int × Int × Int := if 100 ≤ e then (0, 0, 0, 4) else (e + 1, tagOf k [e + 1], k, 0)
set_option maxHeartbeats 1000000 in
theorem rTurn_ok {e k o : Int} (h : ringE e k o = 0) (he : e < 100) (w : World) :
    Calls Tryz.prog 25 #[.agg #[.int .i64 e, .int .i64 k, .int .i64 o]] w fun r w' => r = .returned (.tuple #[.agg #[.int .i64 (e + 1), .int .i64 (tagOf k [e + 1]), .int .i64 k], .int .i64 0]) ∧ Below w.heap.size w w' := by
  obtain ⟨h1, h2, h3, h4⟩ := ringE_ok h
  have O := hide (rTag1 h2 (show 0 ≤ e + 1 ∧ e + 1 < 999983 by omega))
  obtain ⟨e0, e1⟩ := h1
  have t2 : IntKind.i64.wrap (e + 1) = e + 1 := IntWalk.i64_in _ (by omega)
  clear h h2 h3 h4
  go_enter Tryz.func25, Tryz.ntmps25
  go_wp2_with fail
  go_region_held3 (fun w' => w'.cell? ⟨w.heap.size, 0, none⟩ = some (.int .i64 e) ∧ w'.cell? ⟨w.heap.size, 1, none⟩ = some (.int .i64 k)) (go_keep)
    (first | (go_at_call 17; refine (O.out _ _ ?_).mono ?_; (first | (with_reducible refine ObjAt.drew ?_; exact objNew (by simp)) | exact objNew (by simp)); rintro e1 w1 ⟨rfl, rfl⟩))
  all_goals go_wp2
  all_goals exact bodyPost_ret (v := .tuple #[.agg #[.int .i64 (e + 1), .int .i64 (tagOf k [e + 1]), .int .i64 k], .int .i64 0]) (by simp [results, Tryz.results25, go_sem, *]) rfl ⟨rfl, by go_grown⟩
theorem rTurn_full {k o : Int} (w : World) :
    Calls Tryz.prog 25 #[.agg #[.int .i64 100, .int .i64 k, .int .i64 o]] w fun r w' => r = .returned (.tuple #[.agg #[.int .i64 0, .int .i64 0, .int .i64 0], .int .i64 4]) ∧ Below w.heap.size w w' := by
  go_enter Tryz.func25, Tryz.ntmps25
  go_wp2
  exact bodyPost_ret (v := .tuple #[.agg #[.int .i64 0, .int .i64 0, .int .i64 0], .int .i64 4]) (by simp [results, Tryz.results25, go_sem, *]) rfl ⟨rfl, by go_grown⟩
theorem rTurn {e k o t1 t2 t3 c : Int} (h : ringE e k o = 0) (hN : turnN e k = (t1, t2, t3, c)) (w : World) :
    Calls Tryz.prog 25 #[.agg #[.int .i64 e, .int .i64 k, .int .i64 o]] w fun r w' => r = .returned (.tuple #[.agg #[.int .i64 t1, .int .i64 t2, .int .i64 t3], .int .i64 c]) ∧ Below w.heap.size w w' := by
  obtain ⟨h1, _, _, _⟩ := ringE_ok h
  by_cases he : e < 100
  · unfold turnN at hN
    rw [if_neg (by omega)] at hN
    simp only [Prod.mk.injEq] at hN
    obtain ⟨rfl, rfl, rfl, rfl⟩ := hN
    exact rTurn_ok h he w
  · obtain rfl : e = 100 := by omega
    unfold turnN at hN
    rw [if_pos (by omega)] at hN
    simp only [Prod.mk.injEq] at hN
    obtain ⟨rfl, rfl, rfl, rfl⟩ := hN
    exact rTurn_full w
theorem ringTurn {e k o t1 t2 t3 c : Int} (h : ringE e k o = 0) (hN : turnN e k = (t1, t2, t3, c)) (w : World) :
    Calls Tryz.prog 91 #[.agg #[.int .i64 e, .int .i64 k, .int .i64 o]] w fun r w' => r = .returned (.tuple #[.agg #[.int .i64 t1, .int .i64 t2, .int .i64 t3], errV c]) ∧ Below w.heap.size w w' := by
  obtain ⟨h1, _, _, _⟩ := ringE_ok h
  by_cases he : e < 100
  · unfold turnN at hN
    rw [if_neg (by omega)] at hN
    simp only [Prod.mk.injEq] at hN
    obtain ⟨rfl, rfl, rfl, rfl⟩ := hN
    exact ringTurn_ok h he w
  · obtain rfl : e = 100 := by omega
    unfold turnN at hN
    rw [if_pos (by omega)] at hN
    simp only [Prod.mk.injEq] at hN
    obtain ⟨rfl, rfl, rfl, rfl⟩ := hN
    exact ringTurn_full h w
theorem rKey (e k o ep : Int) (w : World) (h0 : 0 ≤ e) (h1 : e ≤ 100) (_h2 : 0 ≤ ep) (_h3 : ep ≤ 100) :
    Calls Tryz.prog 96 #[.agg #[.int .i64 e, .int .i64 k, .int .i64 o], .int .i64 ep] w fun r w' => r = .returned (.tuple #[.int .i64 (ringOfN e k o ep).1, .int .i64 (ringOfN e k o ep).2]) ∧ Below w.heap.size w w' := by
  by_cases g0 : ep = e
  · subst g0
    rw [show ringOfN ep k o ep = (k, 0) by simp [ringOfN]]
    go_enter Tryz.func96, Tryz.ntmps96
    go_wp2
    go_ret2
    exact ⟨rfl, by go_grown⟩
  · have t0 : (ep == e) = false := beq_eq_false_iff_ne.2 g0
    by_cases g2 : e < ep
    · rw [show ringOfN e k o ep = (0, 5) by unfold ringOfN; rw [if_neg (by omega), if_neg (by omega), if_pos g2]]
      clear g0
      go_enter Tryz.func96, Tryz.ntmps96
      go_wp2
      go_ret2
      exact ⟨rfl, by go_grown⟩
    · by_cases g1 : ep = e - 1
      · rw [show ringOfN e k o ep = (o, 0) by unfold ringOfN; rw [if_neg (by omega), if_pos (by omega)]]
        have t1 : (ep == e - 1) = true := by simp [g1]
        clear g0 g1
        go_enter Tryz.func96, Tryz.ntmps96
        go_wp2
        go_ret2
        exact ⟨rfl, by go_grown⟩
      · have t1 : (ep == e - 1) = false := beq_eq_false_iff_ne.2 g1
        rw [show ringOfN e k o ep = (0, 9) by unfold ringOfN; rw [if_neg (by omega), if_neg (by omega), if_neg g2]]
        clear g0 g1
        go_enter Tryz.func96, Tryz.ntmps96
        go_wp2
        go_ret2
        exact ⟨rfl, by go_grown⟩
theorem rKey_eq {e k o ep v c : Int} (h : ringOfN e k o ep = (v, c)) (h0 : 0 ≤ e) (h1 : e ≤ 100) (h2 : 0 ≤ ep) (h3 : ep ≤ 100) (w : World) :
    Calls Tryz.prog 96 #[.agg #[.int .i64 e, .int .i64 k, .int .i64 o], .int .i64 ep] w fun r w' => r = .returned (.tuple #[.int .i64 v, .int .i64 c]) ∧ Below w.heap.size w w' := by
  have g := rKey e k o ep w h0 h1 h2 h3
  rwa [h] at g
end Go.Proofs.YtlnghfmcofmkjaaGreatDoor

namespace Go.Proofs.YtlnghfmcofmkjaaGreatDoor
open Go.RowKit

/-- the blocks of the document's server -/
def rvF (b : Nat) (v vn vk : Value) : List Nat := b :: (v.ownBlock.toList ++ (vn.ownBlock.toList ++ vk.ownBlock.toList))
theorem mem_rvF {b x : Nat} {v vn vk : Value} : x ∈ rvF b v vn vk ↔ x = b ∨ v.ownBlock = some x ∨ vn.ownBlock = some x ∨ vk.ownBlock = some x := by
  unfold rvF
  cases v.ownBlock <;> cases vn.ownBlock <;> cases vk.ownBlock <;> simp [eq_comm]
/-- the document's server: ring (e, k, o), life li, queue zs (row v), blocks (n, m), spent z1 (vn), kept z2 (vk), cn conns -/
def rvC (e k o li n m cn : Int) (vn vk : Value) : RCs := { c0 := .int .i64 e, c1 := .int .i64 k, c2 := .int .i64 o, c3 := .int .i64 li, c5 := .int .i64 n, c6 := .int .i64 m, c7 := vn, c8 := vk, c9 := .int .i64 cn }
structure RV (w : World) (b : Nat) (e k o li n m cn : Int) (v vn vk : Value) (zs z1 z2 : List (Int × Int)) : Prop where
  q : RQ (rvC e k o li n m cn vn vk) w b v zs
  now : PSl w vn z1
  kep : PSl w vk z2
  dn : ∀ g, vn.ownBlock = some g ∨ vk.ownBlock = some g → g < w.heap.size ∧ g ≠ b ∧ v.ownBlock ≠ some g
theorem RV.lt {w : World} {b : Nat} {e k o li n m cn : Int} {v vn vk : Value} {zs z1 z2 : List (Int × Int)} (h : RV w b e k o li n m cn v vn vk zs z1 z2) : ∀ x, x ∈ rvF b v vn vk → x < w.heap.size := by
  intro x hx
  rcases mem_rvF.1 hx with rfl | hx | hx
  · exact h.q.1.lt
  · exact h.q.2.1.lt x hx
  · exact (h.dn x hx).1
theorem RV.below {w w' : World} {b : Nat} {e k o li n m cn : Int} {v vn vk : Value} {zs z1 z2 : List (Int × Int)} (h : RV w b e k o li n m cn v vn vk zs z1 z2) (hb : Below w.heap.size w w') : RV w' b e k o li n m cn v vn vk zs z1 z2 :=
  { q := h.q.below hb, now := h.now.below hb, kep := h.kep.below hb, dn := fun g hg => ⟨Nat.lt_of_lt_of_le (h.dn g hg).1 hb.size, (h.dn g hg).2⟩ }
/-- what is none of the server's blocks turns -/
theorem RV.kept {S : List Nat} {w w' : World} {b : Nat} {e k o li n m cn : Int} {v vn vk : Value} {zs z1 z2 : List (Int × Int)} (h : RV w b e k o li n m cn v vn vk zs z1 z2) (hk : Kept S w w') (hn : ∀ x, x ∈ rvF b v vn vk → x ∉ S) : RV w' b e k o li n m cn v vn vk zs z1 z2 :=
  { q := ⟨hk.obj h.q.1 (hn _ (mem_rvF.2 (.inl rfl))), h.q.2.1.kept hk (fun g hg => hn g (mem_rvF.2 (.inr (.inl hg)))), h.q.2.2⟩
    now := h.now.kept hk (fun x hx e => hn x (mem_rvF.2 (.inr (.inr (.inl e)))) hx)
    kep := h.kep.kept hk (fun x hx e => hn x (mem_rvF.2 (.inr (.inr (.inr e)))) hx)
    dn := fun g hg => ⟨Nat.lt_of_lt_of_le (h.dn g hg).1 hk.size, (h.dn g hg).2⟩ }
/-- a step by which the server's own block alone turned -/
theorem RV.own {w w' : World} {b : Nat} {e k o li n m cn e' k' o' n' m' cn' : Int} {v v' vn vk vn' vk' : Value} {zs zs' z1 z2 z1' z2' : List (Int × Int)} (h : RV w b e k o li n m cn v vn vk zs z1 z2) (ho : ObjAt w' b 60 (rcells (rvC e' k' o' li n' m' cn' vn' vk') v')) (hk : Kept [b] w w')
    (hv : (v' = v ∧ zs' = zs) ∨ (v' = .slice none 0 0 ∧ zs' = [])) (h1 : (vn' = vn ∧ z1' = z1) ∨ (vn' = vk ∧ z1' = z2)) (h2 : vk' = vk ∧ z2' = z2) : RV w' b e' k' o' li n' m' cn' v' vn' vk' zs' z1' z2' ∧ SVst (rvF b v vn vk) (rvF b v' vn' vk') w w' := by
  obtain ⟨rfl, rfl⟩ := h2
  have a1 : PSl w' vn z1 := h.now.kept hk (fun x hx e => by simp at hx; subst hx; exact (h.dn _ (.inl e)).2.1 rfl)
  have a2 : PSl w' vk' z2' := h.kep.kept hk (fun x hx e => by simp at hx; subst hx; exact (h.dn _ (.inr e)).2.1 rfl)
  have a3 : QRow w' v zs := h.q.2.1.kept hk (fun g hg => by simp; exact fun e => h.q.2.2 (e ▸ hg))
  have hz := hk.size
  have dnn : ∀ g, vn'.ownBlock = some g ∨ vk'.ownBlock = some g → vn.ownBlock = some g ∨ vk'.ownBlock = some g := by
    intro g hg
    rcases h1 with ⟨rfl, _⟩ | ⟨rfl, _⟩
    · exact hg
    · exact .inr (hg.elim id id)
  refine ⟨{ q := ⟨ho, ?_, ?_⟩, now := ?_, kep := a2, dn := ?_ }, ⟨hk.mono (fun x hx => by simp at hx; rw [hx]; exact mem_rvF.2 (.inl rfl)), fun x hx => .inl ?_⟩⟩
  · rcases hv with ⟨rfl, rfl⟩ | ⟨rfl, rfl⟩
    · exact a3
    · exact QRow.nil _
  · rcases hv with ⟨rfl, rfl⟩ | ⟨rfl, rfl⟩
    · exact h.q.2.2
    · simp [Value.ownBlock]
  · rcases h1 with ⟨rfl, rfl⟩ | ⟨rfl, rfl⟩
    · exact a1
    · exact a2
  · intro g hg
    obtain ⟨b1, b2, b3⟩ := h.dn g (dnn g hg)
    refine ⟨by omega, b2, ?_⟩
    rcases hv with ⟨rfl, _⟩ | ⟨rfl, _⟩
    · exact b3
    · simp [Value.ownBlock]
  · rcases mem_rvF.1 hx with rfl | hx | hx
    · exact mem_rvF.2 (.inl rfl)
    · rcases hv with ⟨rfl, _⟩ | ⟨rfl, _⟩
      · exact mem_rvF.2 (.inr (.inl hx))
      · simp [Value.ownBlock] at hx
    · exact mem_rvF.2 (.inr (.inr (dnn x hx)))
theorem rsNew {seed li : Int} (hs : inB seed = true) (w : World) :
    Calls Tryz.prog 8 #[.int .i64 seed, .int .i64 li] w fun r w' => ∃ b, r = .returned (.pointer (some ⟨b, 0, none⟩)) ∧ w.heap.size ≤ b ∧ RV w' b 0 (tagOf seed [0]) 0 li 0 0 0 (.slice none 0 0) (.slice none 0 0) (.slice none 0 0) [] [] [] ∧ Below w.heap.size w w' := by
  have T := hide (rTag1 (key := seed) (x := 0) (inB_true.1 hs) (by decide))
  generalize tagOf seed [0] = K at T ⊢
  clear hs
  go_enter Tryz.func8, Tryz.ntmps8
  go_wp2_with fail
  refine (T.out _ _ (ObjAt.new _ _ _)).mono ?_
  rintro r w1 ⟨rfl, rfl⟩
  have hB1 : Below w.heap.size w (w.alloc (.cells #[.int .i64 0] 3)) := (Below.refl _ _).alloc (Nat.le_refl _) _
  have hs1 : w.heap.size ≤ w.heap.size + 1 := by omega
  have hO1 : ObjAt ((w.alloc (.cells #[.int .i64 0] 3)).alloc (.cells #[.int .i64 0, .int .i64 K, .int .i64 0, .int .i64 li, .slice none 0 0, .int .i64 0, .int .i64 0, .slice none 0 0, .slice none 0 0, .int .i64 0] 60)) (w.heap.size + 1) 60 (rcells (rvC 0 K 0 li 0 0 0 (.slice none 0 0) (.slice none 0 0)) (.slice none 0 0)) := by
    have := ObjAt.new (w.alloc (.cells #[.int .i64 0] 3)) 60 (rcells (rvC 0 K 0 li 0 0 0 (.slice none 0 0) (.slice none 0 0)) (.slice none 0 0))
    simpa [rcells, rvC] using this
  go_wp2
  go_ret
  refine ⟨_, rfl, hs1, { q := ⟨hO1, QRow.nil _, by simp [Value.ownBlock]⟩, now := ⟨by simp, .inl ⟨rfl, none, 0, rfl⟩⟩, kep := ⟨by simp, .inl ⟨rfl, none, 0, rfl⟩⟩, dn := fun g hg => by simp [Value.ownBlock] at hg }, hB1.alloc hB1.size _⟩
theorem rsCrash {b : Nat} {e k o li n m cn : Int} {v vn vk : Value} {zs z1 z2 : List (Int × Int)} (w : World) (h : RV w b e k o li n m cn v vn vk zs z1 z2) :
    Calls Tryz.prog 26 #[.pointer (some ⟨b, 0, none⟩)] w fun r w' => r = .returned (.tuple #[]) ∧ RV w' b e k o li m m cn (.slice none 0 0) vk vk [] z2 z2 ∧ SVst (rvF b v vn vk) (rvF b (.slice none 0 0) vk vk) w w' := by
  have ho := h.q.1
  have HV := hide h
  have c4 := ho.cell (i := 4) rfl
  have c5 : w.cell? ⟨b, 5, none⟩ = some (.int .i64 n) := ho.cell (i := 5) rfl
  have c6 : w.cell? ⟨b, 6, none⟩ = some (.int .i64 m) := ho.cell (i := 6) rfl
  have c7 : w.cell? ⟨b, 7, none⟩ = some vn := ho.cell (i := 7) rfl
  have c8 : w.cell? ⟨b, 8, none⟩ = some vk := ho.cell (i := 8) rfl
  have f4 := ho.free 4
  have f5 := ho.free 5
  have f7 := ho.free 7
  have hbl := ho.lt
  have HO := hide ho
  obtain ⟨av, cv, hv⟩ := qrow_form h.q.2.1
  obtain ⟨ak, ck, hk⟩ : ∃ a c, vk = .slice a z2.length c := by
    rcases h.kep.2 with ⟨rfl, a, c, rfl⟩ | ⟨g, off, c, rfl, _⟩
    · exact ⟨a, c, rfl⟩
    · exact ⟨_, c, rfl⟩
  obtain ⟨an, cn', hn⟩ : ∃ a c, vn = .slice a z1.length c := by
    rcases h.now.2 with ⟨rfl, a, c, rfl⟩ | ⟨g, off, c, rfl, _⟩
    · exact ⟨a, c, rfl⟩
    · exact ⟨_, c, rfl⟩
  clear ho h
  subst hv
  subst hk
  subst hn
  go_enter Tryz.func26, Tryz.ntmps26
  go_wp2
  go_returns
  refine ⟨rfl, HV.out.own (((HO.out.set 4 _).set 5 _).set 7 _) ((((Kept.refl _ _).setCell (.inl (by simp)) _).setCell (.inl (by simp)) _).setCell (.inl (by simp)) _) (.inr ⟨rfl, rfl⟩) (.inr ⟨rfl, rfl⟩) ⟨rfl, rfl⟩⟩
end Go.Proofs.YtlnghfmcofmkjaaGreatDoor

namespace Go.Proofs.YtlnghfmcofmkjaaGreatDoor
open Go.RowKit
theorem rTag3 {key x y z : Int} (hk : 0 ≤ key ∧ key < 999983) (hx : 0 ≤ x ∧ x < 999983) (hy : 0 ≤ y ∧ y < 999983) (hz : 0 ≤ z ∧ z < 999983) (W : World) (b : Nat) (h : ObjAt W b 3 [.int .i64 x, .int .i64 y, .int .i64 z]) :
    Calls Tryz.prog 17 #[.int .i64 key, .slice (some ⟨b, 0, none⟩) 3 3] W fun e w' => e = .returned (.int .i64 (tagOf key [x, y, z])) ∧ W = w' := by
  refine rTag_row key [x, y, z] b 0 3 W hk ?_ (by simp) ?_
  · intro v hv
    simp only [List.mem_cons, List.not_mem_nil, or_false] at hv
    rcases hv with rfl | rfl | rfl <;> assumption
  intro i hi
  match i, hi with
  | 0, _ => simpa using h.cell (i := 0) rfl
  | 1, _ => simpa using h.cell (i := 1) rfl
  | 2, _ => simpa using h.cell (i := 2) rfl
end Go.Proofs.YtlnghfmcofmkjaaGreatDoor
