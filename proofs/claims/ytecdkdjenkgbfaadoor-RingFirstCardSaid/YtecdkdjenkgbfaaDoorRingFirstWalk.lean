/- The walk of RingFirst. -/
import Derived.Test.YtecdkdjenkgbfaaDoorRingNew
import Derived.Test.YtecdkdjenkgbfaaDoorRingKey
import Derived.Test.YtecdkdjenkgbfaaDoorErr
import Derived.Test.YtecdkdjenkgbfaaDoorObj4
namespace Go.Proofs.YtecdkdjenkgbfaaDoor
open Go.RowKit

set_option maxHeartbeats 1000000 in
theorem walkRingFirst (w : World) (seed : Int) (_w0 : (Lit.int .i64 seed).wf = true) (hE : ErrT w) :
    Calls Tryd.prog 9 #[.int .i64 seed] w fun e w' => e = .returned (.bool true) ∧ Below w.heap.size w w' := by
  clear _w0
  cases hs : inB seed
  · have NW := hide (fun W => ringNew_bad hs W)
    have hc := inB_false.1 hs
    clear hs
    rcases hc with hc | hc
    all_goals
      go_enter Tryd.func9, Tryd.ntmps9
      go_wp2_with fail
      refine (NW.out _).mono ?_
      rintro e w1 ⟨rfl, hb1⟩
      have hB1 : Below w.heap.size w w1 := by
        refine Below.trans ?_ (Below.mono hb1 ?_)
        · go_grown
        · first | omega | (simp; done) | (simp; omega)
      have hy1 : w.heap.size ≤ w1.heap.size := hB1.size
      clear hb1
      go_wp2
      go_ret
      first | exact ⟨rfl, hB1.alloc hB1.size _⟩ | exact ⟨retB (a := decide (seed < 0) || decide (999982 < seed)) (by simp; omega), hB1.alloc hB1.size _⟩
  · have hk := tagOf_in seed [0]
    have hr := ringNew_key hs
    have NW := hide (fun W => ringNew_ok hs W)
    obtain ⟨v, hv⟩ : ∃ v, v = tagOf seed [0] := ⟨_, rfl⟩
    rw [← hv] at hr NW
    have K0 : Hid (∀ W, Calls Tryd.prog 37 #[.agg #[.int .i64 0, .int .i64 v, .int .i64 0], .int .i64 0] W fun r w' => r = .returned (.tuple #[.int .i64 v, .nilIface]) ∧ Below W.heap.size W w') :=
      hide (fun W => ringKey (c := 0) (by unfold ringKeyN; rw [if_neg (by simp [hr]), if_pos (by decide)]; simp [ringOfN]) W)
    have K1 : Hid (∀ W, Calls Tryd.prog 37 #[.agg #[.int .i64 0, .int .i64 v, .int .i64 0], .int .i64 1] W fun r w' => r = .returned (.tuple #[.int .i64 0, .iface 107 (.int .i64 5)]) ∧ Below W.heap.size W w') :=
      hide (fun W => ringKey (c := 5) (by unfold ringKeyN; rw [if_neg (by simp [hr]), if_pos (by decide)]; simp [ringOfN]) W)
    clear hk hr hs hv
    go_enter Tryd.func9, Tryd.ntmps9
    go_wp2_with fail
    refine (NW.out _).mono ?_
    rintro e w1 ⟨rfl, hb1⟩
    have hB1 : Below w.heap.size w w1 := by
      refine Below.trans ?_ (Below.mono hb1 ?_)
      · go_grown
      · first | omega | (simp; done) | (simp; omega)
    have hy1 : w.heap.size ≤ w1.heap.size := hB1.size
    clear hb1
    go_wp2_with fail
    refine (K0.out _).mono ?_
    rintro e w2 ⟨rfl, hb2⟩
    have hB2 : Below w.heap.size w w2 := by
      refine Below.trans ?_ (Below.mono hb2 ?_)
      · go_grown
      · first | omega | (simp; done) | (simp; omega)
    have o2_r : ObjAt w2 (w1.heap.size) 24 [.int .i64 0, .int .i64 v, .int .i64 0] := ObjAt.below (objNew (by simp)) hb2
    have q2_r_0 := o2_r.cell (i := 0) rfl
    have q2_r_1 := o2_r.cell (i := 1) rfl
    have q2_r_2 := o2_r.cell (i := 2) rfl
    have l2_r := o2_r.lt
    have H2_r := hide o2_r
    clear o2_r
    have hy2 : w.heap.size ≤ w2.heap.size := hB2.size
    clear hb2
    go_wp2_with fail
    refine (K1.out _).mono ?_
    rintro e w3 ⟨rfl, hb3⟩
    have hB3 : Below w.heap.size w w3 := by
      refine Below.trans ?_ (Below.mono hb3 ?_)
      · go_grown
      · first | omega | (simp; done) | (simp; omega)
    have o3_r : ObjAt w3 (w1.heap.size) 24 [.int .i64 0, .int .i64 v, .int .i64 0] := ObjAt.below (H2_r.out) hb3
    clear q2_r_0 q2_r_1 q2_r_2 H2_r
    have q3_r_0 := o3_r.cell (i := 0) rfl
    have q3_r_1 := o3_r.cell (i := 1) rfl
    have q3_r_2 := o3_r.cell (i := 2) rfl
    have l3_r := o3_r.lt
    have H3_r := hide o3_r
    clear o3_r
    have hy3 : w.heap.size ≤ w3.heap.size := hB3.size
    clear hb3
    go_wp2_with fail
    refine (error_any 5 5 _ (hE.below (B := w.heap.size) (by go_grown) hE.pos)).mono ?_
    rintro e w4 ⟨rfl, hb4⟩
    have hB4 : Below w.heap.size w w4 := by
      refine Below.trans ?_ (Below.mono hb4 ?_)
      · go_grown
      · first | omega | (simp; done) | (simp; omega)
    have o4_r : ObjAt w4 (w1.heap.size) 24 [.int .i64 0, .int .i64 v, .int .i64 0] := ObjAt.below (H3_r.out) hb4
    clear q3_r_0 q3_r_1 q3_r_2 H3_r
    have q4_r_0 := o4_r.cell (i := 0) rfl
    have q4_r_1 := o4_r.cell (i := 1) rfl
    have q4_r_2 := o4_r.cell (i := 2) rfl
    have l4_r := o4_r.lt
    have H4_r := hide o4_r
    clear o4_r
    have hy4 : w.heap.size ≤ w4.heap.size := hB4.size
    clear hb4
    go_wp2
    go_ret
    exact ⟨rfl, by go_grown⟩
end Go.Proofs.YtecdkdjenkgbfaaDoor
