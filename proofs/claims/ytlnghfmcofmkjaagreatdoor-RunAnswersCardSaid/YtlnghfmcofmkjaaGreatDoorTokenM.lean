/- token: Make by contract. -/
import Derived.Test.YtlnghfmcofmkjaaGreatDoorRunAnswersProofM10
import Derived.Deep.RegionHeld3
namespace Go.Proofs.YtlnghfmcofmkjaaGreatDoor
open Go.RowKit

set_option maxHeartbeats 1000000 in
theorem tokenMake_ok {e k o a t : Int} (hr : ringE e k o = 0) (ha : inB a = true) (ht : tmB t = true) (w : World) :
    Calls Tryz.prog 107 #[.agg #[.int .i64 e, .int .i64 k, .int .i64 o], .int .i64 a, .int .i64 t] w fun r w' => r = .returned (.tuple #[.agg #[.int .i64 e, .int .i64 a, .int .i64 t, .int .i64 (tagOf k [1, a, t])], .nilIface]) ∧ Below w.heap.size w w' := by
  obtain ⟨_, hk, _, _⟩ := ringE_ok hr
  have C : Hid (∀ W, Calls Tryz.prog 110 #[.agg #[.int .i64 e, .int .i64 k, .int .i64 o]] W fun r w' => r = .returned .nilIface ∧ Below W.heap.size W w') := ringCheck_eq (c := 0) hr
  have I := hide (fun W => tagIn_eq ha W)
  have T := hide (fun W => tokenTime_eq ht W)
  obtain ⟨ht0, ht1⟩ := tmB_true.1 ht
  have O := hide (tagOf3 hk (show (0 : Int) ≤ 1 ∧ (1 : Int) < 999983 by omega) (inB_true.1 ha) (show 0 ≤ t ∧ t < 999983 by omega))
  clear hr ha ht hk
  go_enter Tryz.func107, Tryz.ntmps107
  go_wp2_with fail
  refine (C.out _).mono ?_
  rintro e w1 ⟨rfl, hb1⟩
  have hB1 : Below w.heap.size w w1 := by
    refine Below.trans ?_ (Below.mono hb1 ?_)
    · go_grown
    · first | omega | (simp; done) | (simp; omega)
  have hz1_0 : w.heap.size < w1.heap.size := by have := hb1.size; first | omega | (simp at this; omega)
  have hy1 : w.heap.size ≤ w1.heap.size := hB1.size
  obtain ⟨c1, d1⟩ := bcell hb1
  go_wp2_with fail
  refine (I.out _).mono ?_
  rintro e w102 ⟨rfl, rfl⟩
  go_wp2_with fail
  refine (T.out _).mono ?_
  rintro e w103 ⟨rfl, rfl⟩
  have x1 : ObjAt w1 w.heap.size 52 [.int .i64 e, .int .i64 k, .int .i64 o] := ObjAt.below (ObjAt.alloc (ObjAt.new _ _ _) _) hb1
  have q0 := x1.cell (i := 0) rfl
  have q1 := x1.cell (i := 1) rfl
  have x2 : ObjAt w1 (w.heap.size + 1) 65 [.int .i64 0, .int .i64 0, .int .i64 0, .int .i64 0] := ObjAt.below (objNew (by simp)) hb1
  have p0 := x2.cell (i := 0) rfl
  have f0 := x2.free 0
  have p1 := x2.cell (i := 1) rfl
  have f1 := x2.free 1
  have p2 := x2.cell (i := 2) rfl
  have f2 := x2.free 2
  have p3 := x2.cell (i := 3) rfl
  have f3 := x2.free 3
  have z1 := x2.lt
  have fz : ∀ o i, (w1.alloc o).drew.frozen? ⟨w.heap.size + 1, i, none⟩ = w1.frozen? ⟨w.heap.size + 1, i, none⟩ := fun o i => World.frozen?_alloc_old w1 o ⟨w.heap.size + 1, i, none⟩ (by show w.heap.size + 1 ≠ w1.heap.size; omega)
  clear x1 x2 c1 d1 hb1
  go_wp2_with fail
  go_region_held3 (fun w' => w'.cell? ⟨w.heap.size, 0, none⟩ = some (.int .i64 e) ∧ w'.cell? ⟨w.heap.size, 1, none⟩ = some (.int .i64 k)) (go_keep)
    (first | (go_at_call 44; refine (O.out _ _ ?_).mono ?_; (first | (with_reducible refine ObjAt.drew ?_; exact objNew (by simp)) | exact objNew (by simp)); rintro e1 w1 ⟨rfl, rfl⟩))
  all_goals go_wp2
  all_goals exact bodyPost_ret (v := .tuple #[.agg #[.int .i64 e, .int .i64 a, .int .i64 t, .int .i64 (tagOf k [1, a, t])], .nilIface]) (by simp [results, Tryz.results107, go_sem, *]) rfl ⟨rfl, by go_grown⟩
/-- the fault of a token that is to be made -/
def tomE (e k o a t : Int) : Int := if ringE e k o ≠ 0 then ringE e k o else if inB a && tmB t then 0 else 1
theorem tokenMake_bad {e k o a t c : Int} (hc : tomE e k o a t = c) (h0 : c ≠ 0) (w : World) :
    Calls Tryz.prog 107 #[.agg #[.int .i64 e, .int .i64 k, .int .i64 o], .int .i64 a, .int .i64 t] w fun r w' => r = .returned (.tuple #[.agg #[.int .i64 0, .int .i64 0, .int .i64 0, .int .i64 0], errV c]) ∧ Below w.heap.size w w' := by
  by_cases hr : ringE e k o = 0
  · have C : Hid (∀ W, Calls Tryz.prog 110 #[.agg #[.int .i64 e, .int .i64 k, .int .i64 o]] W fun r w' => r = .returned .nilIface ∧ Below W.heap.size W w') := ringCheck_eq (c := 0) hr
    cases ha : inB a
    · have e1 : c = 1 := by rw [← hc]; simp [tomE, hr, ha]
      subst e1
      have I := hide (fun W => tagIn_eq ha W)
      clear hr ha hc h0
      go_enter Tryz.func107, Tryz.ntmps107
      go_wp2_with fail
      refine (C.out _).mono ?_
      rintro e w1 ⟨rfl, hb1⟩
      have hB1 : Below w.heap.size w w1 := by
        refine Below.trans ?_ (Below.mono hb1 ?_)
        · go_grown
        · first | omega | (simp; done) | (simp; omega)
      have hz1_0 : w.heap.size < w1.heap.size := by have := hb1.size; first | omega | (simp at this; omega)
      have hy1 : w.heap.size ≤ w1.heap.size := hB1.size
      obtain ⟨c1, d1⟩ := bcell hb1
      go_wp2_with fail
      refine (I.out _).mono ?_
      rintro e w102 ⟨rfl, rfl⟩
      go_wp2
      exact bodyPost_ret (v := .tuple #[.agg #[.int .i64 0, .int .i64 0, .int .i64 0, .int .i64 0], .iface 82 (.int .i64 1)]) (by simp [results, Tryz.results107, go_sem, *]) rfl ⟨rfl, by go_grown⟩
    · have I := hide (fun W => tagIn_eq ha W)
      cases ht : tmB t
      · have e1 : c = 1 := by rw [← hc]; simp [tomE, hr, ht]
        subst e1
        have T := hide (fun W => tokenTime_eq ht W)
        clear hr ha ht hc h0
        go_enter Tryz.func107, Tryz.ntmps107
        go_wp2_with fail
        refine (C.out _).mono ?_
        rintro e w1 ⟨rfl, hb1⟩
        have hB1 : Below w.heap.size w w1 := by
          refine Below.trans ?_ (Below.mono hb1 ?_)
          · go_grown
          · first | omega | (simp; done) | (simp; omega)
        have hz1_0 : w.heap.size < w1.heap.size := by have := hb1.size; first | omega | (simp at this; omega)
        have hy1 : w.heap.size ≤ w1.heap.size := hB1.size
        obtain ⟨c1, d1⟩ := bcell hb1
        go_wp2_with fail
        refine (I.out _).mono ?_
        rintro e w102 ⟨rfl, rfl⟩
        go_wp2_with fail
        refine (T.out _).mono ?_
        rintro e w103 ⟨rfl, rfl⟩
        go_wp2
        exact bodyPost_ret (v := .tuple #[.agg #[.int .i64 0, .int .i64 0, .int .i64 0, .int .i64 0], .iface 82 (.int .i64 1)]) (by simp [results, Tryz.results107, go_sem, *]) rfl ⟨rfl, by go_grown⟩
      · exact absurd (by rw [← hc]; simp [tomE, hr, ha, ht]) h0
  · have e1 : ringE e k o = c := by rw [← hc]; simp [tomE, hr]
    have C := hide (fun W => ringCheck_eq e1 W)
    have t1 : (c != 0) = true := bne_iff_ne.2 h0
    clear e1 hr hc h0
    go_enter Tryz.func107, Tryz.ntmps107
    go_wp2_with fail
    refine (C.out _).mono ?_
    rintro e w1 ⟨rfl, hb1⟩
    have hB1 : Below w.heap.size w w1 := by
      refine Below.trans ?_ (Below.mono hb1 ?_)
      · go_grown
      · first | omega | (simp; done) | (simp; omega)
    have hz1_0 : w.heap.size < w1.heap.size := by have := hb1.size; first | omega | (simp at this; omega)
    have hy1 : w.heap.size ≤ w1.heap.size := hB1.size
    obtain ⟨c1, d1⟩ := bcell hb1
    go_wp2
    exact bodyPost_ret (v := .tuple #[.agg #[.int .i64 0, .int .i64 0, .int .i64 0, .int .i64 0], errV c]) (by simp [results, Tryz.results107, go_sem, *]) rfl ⟨rfl, by go_grown⟩
theorem tomE_cases (e k o a t : Int) : (tomE e k o a t = 0 ∧ ringE e k o = 0 ∧ inB a = true ∧ tmB t = true) ∨ tomE e k o a t ≠ 0 := by
  unfold tomE
  by_cases hr : ringE e k o = 0
  · rw [if_neg (by simp [hr])]
    cases ha : inB a <;> cases ht : tmB t <;> simp [hr]
  · rw [if_pos hr]; exact .inr hr
end Go.Proofs.YtlnghfmcofmkjaaGreatDoor
