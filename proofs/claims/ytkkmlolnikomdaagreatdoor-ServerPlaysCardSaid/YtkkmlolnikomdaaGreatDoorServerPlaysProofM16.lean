/- foldref1: In, Tag, Tagged by contracts. ring: Turn by contract. ring: Key by contract. foldref1: Time by contract. -/
import Derived.Test.YtkkmlolnikomdaaGreatDoorServerPlaysProofM9
import Derived.IntWalk
import Derived.Deep.RegionHeld3
namespace Go.Proofs.YtkkmlolnikomdaaGreatDoor
open Go.RowKit

theorem rIn (n : Int) (w : World) : Calls Tryz.prog 4 #[.int .i64 n] w fun e w' => e = .returned (.bool (inB n)) ∧ w = w' := by
  have hc : n < 0 ∨ (0 ≤ n ∧ 999983 ≤ n) ∨ (0 ≤ n ∧ n < 999983) := by omega
  rcases hc with h | ⟨h1, h2⟩ | ⟨h1, h2⟩
  all_goals
    go_enter Tryz.func4, Tryz.ntmps4
    go_wp2
    go_ret
    exact ⟨retB (by first | exact (decide_eq_true (by omega)).symm | exact (decide_eq_false (by omega)).symm | (simp only [inB, decide_eq_decide]; omega)), rfl⟩
theorem rIn_eq {n : Int} {v : Bool} (h : inB n = v) (w : World) : Calls Tryz.prog 4 #[.int .i64 n] w fun e w' => e = .returned (.bool v) ∧ w = w' := by
  have g := rIn n w
  rwa [h] at g

/-- the tag of the numbers of a row -/
theorem rTag_row (key : Int) (zs : List Int) (b off cap : Nat) (w : World) (hk : 0 ≤ key ∧ key < 999983) (hz : ∀ x ∈ zs, 0 ≤ x ∧ x < 999983) (hl : zs.length ≤ 1000)
    (hc : ∀ i, i < zs.length → w.cell? ⟨b, off + i, none⟩ = some (.int .i64 (zs.getD i 0))) :
    Calls Tryz.prog 26 #[.int .i64 key, .slice (some ⟨b, off, none⟩) zs.length cap] w fun e w' => e = .returned (.int .i64 (tagOf key zs)) ∧ w = w' := by
  obtain ⟨hk0, hk1⟩ := hk
  obtain ⟨n, hn⟩ : ∃ n, n = zs.length := ⟨_, rfl⟩
  have HC := hide hc
  clear hc
  rw [← hn] at hl ⊢
  have Hn := hide hn
  clear hn
  go_enter Tryz.func26, Tryz.ntmps26
  go_wp2
  go_loop [5, 6] (fun o i => ∃ k : Nat, i = .int .i64 k ∧ k ≤ n ∧ o = .int .i64 (tfold key (zs.take k))) (fun _ i => n - (intOf i).toNat)
  case atStart => exact ⟨0, rfl, by omega, rfl⟩
  case round =>
    obtain ⟨k, rfl, hk, rfl⟩ := hrel
    have hb := tfold_in key (zs.take k) ⟨hk0, hk1⟩
    obtain ⟨hb0, hb1⟩ := hb
    by_cases hlt : k < n
    · have hx := hz (zs.getD k 0) (by rw [List.getD, List.getElem?_eq_getElem (by rw [← Hn.out]; exact hlt)]; simp)
      have hcell := HC.out k (by rw [← Hn.out]; exact hlt)
      have hs : tfold key (zs.take (k + 1)) = (4099 * tfold key (zs.take k) + zs.getD k 0 + 1) % 999983 := by
        rw [take_snoc_getD zs k (by rw [← Hn.out]; exact hlt), tfold_snoc]; rfl
      have Hs := hide hs
      obtain ⟨x, hxe⟩ : ∃ x, x = zs.getD k 0 := ⟨_, rfl⟩
      rw [← hxe] at hx hcell
      have Hx := hide hxe
      obtain ⟨hx0, hx1⟩ := hx
      clear hs hxe hz
      go_wp2
      go_round
      case rel => exact ⟨k + 1, by go_num, by omega, by rw [Hs.out, ← Hx.out]⟩
      case measure => simp [intOf]; omega
    · obtain rfl : k = n := by omega
      have ht : tagOf key zs = (4099 * tfold key (zs.take k) + key) % 999983 := by
        rw [List.take_of_length_le (by rw [← Hn.out]; exact Nat.le_refl _)]; rfl
      have Ht := hide ht
      clear ht
      go_wp2
      go_ret
      exact ⟨retI Ht.out.symm, rfl⟩
theorem rTag_nil (key : Int) (a : Option Addr) (cap : Nat) (w : World) (hk : 0 ≤ key ∧ key < 999983) :
    Calls Tryz.prog 26 #[.int .i64 key, .slice a 0 cap] w fun e w' => e = .returned (.int .i64 (tagOf key [])) ∧ w = w' := by
  obtain ⟨hk0, hk1⟩ := hk
  go_enter Tryz.func26, Tryz.ntmps26
  go_wp2
  go_rounds 1
  go_ret
  exact ⟨rfl, rfl⟩
theorem rTag_any (key : Int) (a : Option Addr) (len cap : Nat) (zs : List Int) (w : World) (hk : 0 ≤ key ∧ key < 999983) (hr : IntRow w a len zs) (hz : ∀ x ∈ zs, 0 ≤ x ∧ x < 999983) (hl : len ≤ 1000) :
    Calls Tryz.prog 26 #[.int .i64 key, .slice a len cap] w fun e w' => e = .returned (.int .i64 (tagOf key zs)) ∧ w = w' := by
  obtain ⟨h1, _, _, h4⟩ := hr
  rcases h4 with h0 | ⟨b, off, rfl, _, hc⟩
  · subst h0
    obtain rfl : zs = [] := List.eq_nil_of_length_eq_zero h1
    exact rTag_nil key a cap w hk
  · subst h1
    exact rTag_row key zs b off cap w hk hz hl (fun i hi => by have := hc i 0 hi (by omega); simpa using this)
end Go.Proofs.YtkkmlolnikomdaaGreatDoor

namespace Go.Proofs.YtkkmlolnikomdaaGreatDoor
open Go.RowKit

theorem ringTurn_bad {e k o c : Int} (h : ringE e k o = c) (h0 : c ≠ 0) (w : World) :
    Calls Tryz.prog 29 #[.agg #[.int .i64 e, .int .i64 k, .int .i64 o]] w fun r w' => r = .returned (.tuple #[.agg #[.int .i64 0, .int .i64 0, .int .i64 0], errV c]) ∧ Below w.heap.size w w' := by
  have C := hide (ringCheck_eq h)
  have t1 : (c != 0) = true := bne_iff_ne.2 h0
  clear h h0
  go_enter Tryz.func29, Tryz.ntmps29
  go_wp2_with fail
  refine (C.out _).mono ?_
  rintro e w1 ⟨rfl, hb1⟩
  have hB1 : Below w.heap.size w w1 := by
    refine Below.trans ?_ (Below.mono hb1 ?_)
    · go_grown
    · first | omega | (simp; done) | (simp; omega)
  have hz1_0 : w.heap.size < w1.heap.size := by have := hb1.size; first | omega | (simp at this; omega)
  have hy1 : w.heap.size ≤ w1.heap.size := hB1.size
  obtain ⟨c1, d1⟩ := bcell hb1
  go_wp2
  exact bodyPost_ret (v := .tuple #[.agg #[.int .i64 0, .int .i64 0, .int .i64 0], errV c]) (by simp [results, Tryz.results29, go_sem, *]) rfl ⟨rfl, by go_grown⟩
theorem ringTurn_full {k o : Int} (h : ringE 100 k o = 0) (w : World) :
    Calls Tryz.prog 29 #[.agg #[.int .i64 100, .int .i64 k, .int .i64 o]] w fun r w' => r = .returned (.tuple #[.agg #[.int .i64 0, .int .i64 0, .int .i64 0], .iface 71 (.int .i64 4)]) ∧ Below w.heap.size w w' := by
  have C : Hid (∀ W, Calls Tryz.prog 44 #[.agg #[.int .i64 100, .int .i64 k, .int .i64 o]] W fun r w' => r = .returned .nilIface ∧ Below W.heap.size W w') := ringCheck_eq (c := 0) h
  clear h
  go_enter Tryz.func29, Tryz.ntmps29
  go_wp2_with fail
  refine (C.out _).mono ?_
  rintro e w1 ⟨rfl, hb1⟩
  have hB1 : Below w.heap.size w w1 := by
    refine Below.trans ?_ (Below.mono hb1 ?_)
    · go_grown
    · first | omega | (simp; done) | (simp; omega)
  have hz1_0 : w.heap.size < w1.heap.size := by have := hb1.size; first | omega | (simp at this; omega)
  have hy1 : w.heap.size ≤ w1.heap.size := hB1.size
  obtain ⟨c1, d1⟩ := bcell hb1
  go_wp2
  exact bodyPost_ret (v := .tuple #[.agg #[.int .i64 0, .int .i64 0, .int .i64 0], .iface 71 (.int .i64 4)]) (by simp [results, Tryz.results29, go_sem, *]) rfl ⟨rfl, by go_grown⟩
set_option maxHeartbeats 1000000 in
theorem ringTurn_ok {e k o : Int} (h : ringE e k o = 0) (he : e < 100) (w : World) :
    Calls Tryz.prog 29 #[.agg #[.int .i64 e, .int .i64 k, .int .i64 o]] w fun r w' => r = .returned (.tuple #[.agg #[.int .i64 (e + 1), .int .i64 (tagOf k [e + 1]), .int .i64 k], .nilIface]) ∧ Below w.heap.size w w' := by
  obtain ⟨h1, h2, h3, h4⟩ := ringE_ok h
  have C : Hid (∀ W, Calls Tryz.prog 44 #[.agg #[.int .i64 e, .int .i64 k, .int .i64 o]] W fun r w' => r = .returned .nilIface ∧ Below W.heap.size W w') := ringCheck_eq (c := 0) h
  have O := hide (tagOf1 h2 (show 0 ≤ e + 1 ∧ e + 1 < 999983 by omega))
  obtain ⟨e0, e1⟩ := h1
  have t1 : (e == 100) = false := beq_eq_false_iff_ne.2 (by omega)
  have t2 : IntKind.i64.wrap (e + 1) = e + 1 := IntWalk.i64_in _ (by omega)
  clear h h2 h3 h4
  go_enter Tryz.func29, Tryz.ntmps29
  go_wp2_with fail
  refine (C.out _).mono ?_
  rintro e w1 ⟨rfl, hb1⟩
  have hB1 : Below w.heap.size w w1 := by
    refine Below.trans ?_ (Below.mono hb1 ?_)
    · go_grown
    · first | omega | (simp; done) | (simp; omega)
  have hz1_0 : w.heap.size < w1.heap.size := by have := hb1.size; first | omega | (simp at this; omega)
  have hy1 : w.heap.size ≤ w1.heap.size := hB1.size
  obtain ⟨c1, d1⟩ := bcell hb1
  have x1 : ObjAt w1 w.heap.size 42 [.int .i64 e, .int .i64 k, .int .i64 o] := ObjAt.below (ObjAt.alloc (ObjAt.new _ _ _) _) hb1
  have q0 := x1.cell (i := 0) rfl
  have q1 := x1.cell (i := 1) rfl
  have x2 : ObjAt w1 (w.heap.size + 1) 42 [.int .i64 0, .int .i64 0, .int .i64 0] := ObjAt.below (objNew (by simp)) hb1
  have p0 := x2.cell (i := 0) rfl
  have f0 := x2.free 0
  have p1 := x2.cell (i := 1) rfl
  have f1 := x2.free 1
  have p2 := x2.cell (i := 2) rfl
  have f2 := x2.free 2
  have z1 := x2.lt
  have fz : ∀ o i, (w1.alloc o).drew.frozen? ⟨w.heap.size + 1, i, none⟩ = w1.frozen? ⟨w.heap.size + 1, i, none⟩ := fun o i => World.frozen?_alloc_old w1 o ⟨w.heap.size + 1, i, none⟩ (by show w.heap.size + 1 ≠ w1.heap.size; omega)
  clear x1 x2 c1 d1 hb1
  go_wp2_with fail
  go_region_held3 (fun w' => w'.cell? ⟨w.heap.size, 0, none⟩ = some (.int .i64 e) ∧ w'.cell? ⟨w.heap.size, 1, none⟩ = some (.int .i64 k)) (go_keep)
    (first | (go_at_call 41; refine (O.out _ _ ?_).mono ?_; (first | (with_reducible refine ObjAt.drew ?_; exact objNew (by simp)) | exact objNew (by simp)); rintro e1 w1 ⟨rfl, rfl⟩))
  all_goals go_wp2
  all_goals exact bodyPost_ret (v := .tuple #[.agg #[.int .i64 (e + 1), .int .i64 (tagOf k [e + 1]), .int .i64 k], .nilIface]) (by simp [results, Tryz.results29, go_sem, *]) rfl ⟨rfl, by go_grown⟩
theorem ringTurn_right {e k o : Int} (h : ringE e k o = 0) (he : e < 100) : ringE (e + 1) (tagOf k [e + 1]) k = 0 := by
  obtain ⟨h1, h2, h3, h4⟩ := ringE_ok h
  have h5 := tagOf_in k [e + 1]
  unfold ringE
  rw [epB_true.2 (by omega), inB_true.2 h5, inB_true.2 h2]
  simp only [Bool.and_self, if_true]
  rw [if_neg (by omega)]
/-- what Turn tells: the fault -/
def turnE (e k o : Int) : Int := if ringE e k o ≠ 0 then ringE e k o else if e = 100 then 4 else 0
end Go.Proofs.YtkkmlolnikomdaaGreatDoor

namespace Go.Proofs.YtkkmlolnikomdaaGreatDoor
open Go.RowKit

/-- what Key tells -/
def ringKeyN (e k o ep : Int) : Int × Int := if ringE e k o ≠ 0 then (0, ringE e k o) else if epB ep then ringOfN e k o ep else (0, 1)
end Go.Proofs.YtkkmlolnikomdaaGreatDoor

namespace Go.Proofs.YtkkmlolnikomdaaGreatDoor
open Go.RowKit

theorem rTime (n : Int) (w : World) : Calls Tryz.prog 5 #[.int .i64 n] w fun e w' => e = .returned (.bool (tmB n)) ∧ w = w' := by
  have hc : n < 0 ∨ (0 ≤ n ∧ 100000 < n) ∨ (0 ≤ n ∧ n ≤ 100000) := by omega
  rcases hc with h | ⟨h1, h2⟩ | ⟨h1, h2⟩
  all_goals
    go_enter Tryz.func5, Tryz.ntmps5
    go_wp2
    go_ret
    exact ⟨retB (by first | exact (decide_eq_true (by omega)).symm | exact (decide_eq_false (by omega)).symm | (simp only [tmB, decide_eq_decide]; omega)), rfl⟩
theorem rTime_eq {n : Int} {v : Bool} (h : tmB n = v) (w : World) : Calls Tryz.prog 5 #[.int .i64 n] w fun e w' => e = .returned (.bool v) ∧ w = w' := by
  have g := rTime n w
  rwa [h] at g
end Go.Proofs.YtkkmlolnikomdaaGreatDoor
