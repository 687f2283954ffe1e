/- ring: Turn by contract. -/
import Derived.Test.YtlnehoedflbifaaRingNew
import Derived.IntWalk
import Derived.Deep.RegionHeld3
namespace Go.Proofs.Ytlnehoedflbifaa
open Go.RowKit

theorem ringTurn_bad {e k o c : Int} (h : ringE e k o = c) (h0 : c ≠ 0) (w : World) :
    Calls Try.prog 23 #[.agg #[.int .i64 e, .int .i64 k, .int .i64 o]] w fun r w' => r = .returned (.tuple #[.agg #[.int .i64 0, .int .i64 0, .int .i64 0], errV c]) ∧ Below w.heap.size w w' := by
  have C := hide (ringCheck_eq h)
  have t1 : (c != 0) = true := bne_iff_ne.2 h0
  clear h h0
  go_enter Try.func23, Try.ntmps23
  go_wp2_with fail
  refine (C.out _).mono ?_
  rintro e w1 ⟨rfl, hb1⟩
  have hB1 : Below w.heap.size w w1 := by
    refine Below.trans ?_ (Below.mono hb1 ?_)
    · go_grown
    · first | omega | (simp; done) | (simp; omega)
  have hz1_0 : w.heap.size < w1.heap.size := by have := hb1.size; first | omega | (simp at this; omega)
  have hy1 : w.heap.size ≤ w1.heap.size := hB1.size
  obtain ⟨c1, d1⟩ := bcell hb1
  go_wp2
  exact bodyPost_ret (v := .tuple #[.agg #[.int .i64 0, .int .i64 0, .int .i64 0], errV c]) (by simp [results, Try.results23, go_sem, *]) rfl ⟨rfl, by go_grown⟩
theorem ringTurn_full {k o : Int} (h : ringE 100 k o = 0) (w : World) :
    Calls Try.prog 23 #[.agg #[.int .i64 100, .int .i64 k, .int .i64 o]] w fun r w' => r = .returned (.tuple #[.agg #[.int .i64 0, .int .i64 0, .int .i64 0], .iface 53 (.int .i64 4)]) ∧ Below w.heap.size w w' := by
  have C : Hid (∀ W, Calls Try.prog 30 #[.agg #[.int .i64 100, .int .i64 k, .int .i64 o]] W fun r w' => r = .returned .nilIface ∧ Below W.heap.size W w') := ringCheck_eq (c := 0) h
  clear h
  go_enter Try.func23, Try.ntmps23
  go_wp2_with fail
  refine (C.out _).mono ?_
  rintro e w1 ⟨rfl, hb1⟩
  have hB1 : Below w.heap.size w w1 := by
    refine Below.trans ?_ (Below.mono hb1 ?_)
    · go_grown
    · first | omega | (simp; done) | (simp; omega)
  have hz1_0 : w.heap.size < w1.heap.size := by have := hb1.size; first | omega | (simp at this; omega)
  have hy1 : w.heap.size ≤ w1.heap.size := hB1.size
  obtain ⟨c1, d1⟩ := bcell hb1
  go_wp2
  exact bodyPost_ret (v := .tuple #[.agg #[.int .i64 0, .int .i64 0, .int .i64 0], .iface 53 (.int .i64 4)]) (by simp [results, Try.results23, go_sem, *]) rfl ⟨rfl, by go_grown⟩
set_option maxHeartbeats 1000000 in
theorem ringTurn_ok {e k o : Int} (h : ringE e k o = 0) (he : e < 100) (w : World) :
    Calls Try.prog 23 #[.agg #[.int .i64 e, .int .i64 k, .int .i64 o]] w fun r w' => r = .returned (.tuple #[.agg #[.int .i64 (e + 1), .int .i64 (tagOf k [e + 1]), .int .i64 k], .nilIface]) ∧ Below w.heap.size w w' := by
  obtain ⟨h1, h2, h3, h4⟩ := ringE_ok h
  have C : Hid (∀ W, Calls Try.prog 30 #[.agg #[.int .i64 e, .int .i64 k, .int .i64 o]] W fun r w' => r = .returned .nilIface ∧ Below W.heap.size W w') := ringCheck_eq (c := 0) h
  have O := hide (tagOf1 h2 (show 0 ≤ e + 1 ∧ e + 1 < 999983 by omega))
  obtain ⟨e0, e1⟩ := h1
  have t1 : (e == 100) = false := beq_eq_false_iff_ne.2 (by omega)
  have t2 : IntKind.i64.wrap (e + 1) = e + 1 := IntWalk.i64_in _ (by omega)
  clear h h2 h3 h4
  go_enter Try.func23, Try.ntmps23
  go_wp2_with fail
  refine (C.out _).mono ?_
  rintro e w1 ⟨rfl, hb1⟩
  have hB1 : Below w.heap.size w w1 := by
    refine Below.trans ?_ (Below.mono hb1 ?_)
    · go_grown
    · first | omega | (simp; done) | (simp; omega)
  have hz1_0 : w.heap.size < w1.heap.size := by have := hb1.size; first | omega | (simp at this; omega)
  have hy1 : w.heap.size ≤ w1.heap.size := hB1.size
  obtain ⟨c1, d1⟩ := bcell hb1
  have x1 : ObjAt w1 w.heap.size 49 [.int .i64 e, .int .i64 k, .int .i64 o] := ObjAt.below (ObjAt.alloc (ObjAt.new _ _ _) _) hb1
  have q0 := x1.cell (i := 0) rfl
  have q1 := x1.cell (i := 1) rfl
  have x2 : ObjAt w1 (w.heap.size + 1) 49 [.int .i64 0, .int .i64 0, .int .i64 0] := ObjAt.below (objNew (by simp)) hb1
  have p0 := x2.cell (i := 0) rfl
  have f0 := x2.free 0
  have p1 := x2.cell (i := 1) rfl
  have f1 := x2.free 1
  have p2 := x2.cell (i := 2) rfl
  have f2 := x2.free 2
  have z1 := x2.lt
  have fz : ∀ o i, (w1.alloc o).drew.frozen? ⟨w.heap.size + 1, i, none⟩ = w1.frozen? ⟨w.heap.size + 1, i, none⟩ := fun o i => World.frozen?_alloc_old w1 o ⟨w.heap.size + 1, i, none⟩ (by show w.heap.size + 1 ≠ w1.heap.size; omega)
  clear x1 x2 c1 d1 hb1
  go_wp2_with fail
  go_region_held3 (fun w' => w'.cell? ⟨w.heap.size, 0, none⟩ = some (.int .i64 e) ∧ w'.cell? ⟨w.heap.size, 1, none⟩ = some (.int .i64 k)) (go_keep)
    (first | (go_at_call 28; refine (O.out _ _ ?_).mono ?_; (first | (with_reducible refine ObjAt.drew ?_; exact objNew (by simp)) | exact objNew (by simp)); rintro e1 w1 ⟨rfl, rfl⟩))
  all_goals go_wp2
  all_goals exact bodyPost_ret (v := .tuple #[.agg #[.int .i64 (e + 1), .int .i64 (tagOf k [e + 1]), .int .i64 k], .nilIface]) (by simp [results, Try.results23, go_sem, *]) rfl ⟨rfl, by go_grown⟩
theorem ringTurn_right {e k o : Int} (h : ringE e k o = 0) (he : e < 100) : ringE (e + 1) (tagOf k [e + 1]) k = 0 := by
  obtain ⟨h1, h2, h3, h4⟩ := ringE_ok h
  have h5 := tagOf_in k [e + 1]
  unfold ringE
  rw [epB_true.2 (by omega), inB_true.2 h5, inB_true.2 h2]
  simp only [Bool.and_self, if_true]
  rw [if_neg (by omega)]
/-- what Turn tells: the fault -/
def turnE (e k o : Int) : Int := if ringE e k o ≠ 0 then ringE e k o else if e = 100 then 4 else 0
end Go.Proofs.Ytlnehoedflbifaa
