/- The walk of RingTwo. -/
import Derived.Test.YtelegodagepeeaaDoorRingNew
import Derived.Test.YtelegodagepeeaaDoorRingKey
import Derived.Test.YtelegodagepeeaaDoorRingTurn
import Derived.Test.YtelegodagepeeaaDoorTokFacts
import Derived.Test.YtelegodagepeeaaDoorErr
import Derived.Test.YtelegodagepeeaaDoorObj4
namespace Go.Proofs.YtelegodagepeeaaDoor
open Go.RowKit

set_option maxRecDepth 100000 in
set_option maxHeartbeats 4000000 in
theorem walkRingTwo (w : World) (seed : Int) (_w0 : (Lit.int .i64 seed).wf = true) (many : Int) (_w1 : (Lit.int .i64 many).wf = true) (hE : ErrT w) :
    Calls Tryd.prog 7 #[.int .i64 seed, .int .i64 many] w fun e w' => e = .returned (.bool true) ∧ Below w.heap.size w w' := by
  clear _w0 _w1
  cases hs : inB seed
  · have NW := hide (fun W => ringNew_bad hs W)
    have hc := inB_false.1 hs
    clear hs
    rcases hc with hc | hc
    all_goals
      go_enter Tryd.func7, Tryd.ntmps7
      go_wp2_with fail
      refine (NW.out _).mono ?_
      rintro e w1 ⟨rfl, hb1⟩
      have hB1 : Below w.heap.size w w1 := by
        refine Below.trans ?_ (Below.mono hb1 ?_)
        · go_grown
        · first | omega | (simp; done) | (simp; omega)
      have hy1 : w.heap.size ≤ w1.heap.size := hB1.size
      clear hb1
      go_wp2
      go_ret
      first | exact ⟨rfl, hB1.alloc hB1.size _⟩ | exact ⟨retB (a := decide (seed < 0) || decide (999982 < seed)) (by simp; omega), hB1.alloc hB1.size _⟩
  · have hr0 := ringNew_key hs
    have NW := hide (fun W => ringNew_ok hs W)
    obtain ⟨v, hv⟩ : ∃ v, v = tagOf seed [0] := ⟨_, rfl⟩
    rw [← hv] at hr0 NW
    have HR0 := hide hr0
    clear hs hv hr0
    go_enter Tryd.func7, Tryd.ntmps7
    go_wp2_with fail
    refine (NW.out _).mono ?_
    rintro e w1 ⟨rfl, hb1⟩
    have hB1 : Below w.heap.size w w1 := by
      refine Below.trans ?_ (Below.mono hb1 ?_)
      · go_grown
      · first | omega | (simp; done) | (simp; omega)
    have hy1 : w.heap.size ≤ w1.heap.size := hB1.size
    clear hb1
    go_wp2_with fail
    go_loopw [7] (fun i wr => ∃ j : Nat, ∃ k o : Int, i = .int .i64 (j : Int) ∧ j ≤ 100 ∧ Hid (ringE j k o = 0) ∧ ObjAt wr w1.heap.size 47 [.int .i64 (j : Int), .int .i64 k, .int .i64 o] ∧ Below w.heap.size w wr) (fun i _ => 200 - (intOf i).toNat)
    case atStart => exact ⟨0, v, 0, rfl, by omega, HR0, ObjAt.new _ _ _, by go_grown⟩
    case round =>
      obtain ⟨j, k, o, rfl, hj, hre, ho, hb⟩ := hrel
      clear NW HR0
      have p0 := ho.cell (i := 0) rfl
      have p1 := ho.cell (i := 1) rfl
      have p2 := ho.cell (i := 2) rfl
      have l0 := ho.lt
      have HO := hide ho
      have hy1 : w.heap.size ≤ wr.heap.size := hb.size
      have hyy : w.heap.size ≤ w1.heap.size := hB1.size
      clear ho
      have hj2 : (j : Int) ≤ 100 := by omega
      have hre' := hre.out
      by_cases hm : (j : Int) < many
      · by_cases h100 : j = 100
        · subst h100
          have hm' : (100 : Int) < many := hm
          have KA : Hid (∀ W, Calls Tryd.prog 33 #[.agg #[.int .i64 100, .int .i64 k, .int .i64 o], .int .i64 100] W fun r w' => r = .returned (.tuple #[.int .i64 k, .nilIface]) ∧ Below W.heap.size W w') := hide (fun W => ringKey (c := 0) (by unfold ringKeyN; rw [if_neg (by simpa using hre'), if_pos (by decide)]; simp [ringOfN]) W)
          have KB : Hid (∀ W, Calls Tryd.prog 33 #[.agg #[.int .i64 100, .int .i64 k, .int .i64 o], .int .i64 101] W fun r w' => r = .returned (.tuple #[.int .i64 0, .iface 94 (.int .i64 1)]) ∧ Below W.heap.size W w') := hide (fun W => ringKey (c := 1) (by unfold ringKeyN; rw [if_neg (by simpa using hre'), if_neg (by decide)]) W)
          have TF := hide (fun W => ringTurn_full (k := k) (o := o) hre' W)
          clear hre hre' hj hj2 hm
          go_wp2_with fail
          refine (KA.out _).mono ?_
          rintro e w21 ⟨rfl, hb21⟩
          have hB21 : Below w.heap.size w w21 := by
            refine Below.trans ?_ (Below.mono hb21 ?_)
            · go_grown
            · first | omega | (simp; done) | (simp; omega)
          have o21_r : ObjAt w21 (w1.heap.size) 47 [.int .i64 100, .int .i64 k, .int .i64 o] := ObjAt.below (HO.out) hb21
          clear p0 p1 p2
          have q21_r_0 := o21_r.cell (i := 0) rfl
          have f21_r_0 := o21_r.free 0
          have q21_r_1 := o21_r.cell (i := 1) rfl
          have f21_r_1 := o21_r.free 1
          have q21_r_2 := o21_r.cell (i := 2) rfl
          have f21_r_2 := o21_r.free 2
          have l21_r := o21_r.lt
          have H21_r := hide o21_r
          clear o21_r
          have hy21 : w.heap.size ≤ w21.heap.size := hB21.size
          clear hb21
          go_wp2_with fail
          refine (KB.out _).mono ?_
          rintro e w22 ⟨rfl, hb22⟩
          have hB22 : Below w.heap.size w w22 := by
            refine Below.trans ?_ (Below.mono hb22 ?_)
            · go_grown
            · first | omega | (simp; done) | (simp; omega)
          have o22_r : ObjAt w22 (w1.heap.size) 47 [.int .i64 100, .int .i64 k, .int .i64 o] := ObjAt.below (H21_r.out) hb22
          clear q21_r_0 f21_r_0 q21_r_1 f21_r_1 q21_r_2 f21_r_2 H21_r
          have q22_r_0 := o22_r.cell (i := 0) rfl
          have f22_r_0 := o22_r.free 0
          have q22_r_1 := o22_r.cell (i := 1) rfl
          have f22_r_1 := o22_r.free 1
          have q22_r_2 := o22_r.cell (i := 2) rfl
          have f22_r_2 := o22_r.free 2
          have l22_r := o22_r.lt
          have H22_r := hide o22_r
          clear o22_r
          have hy22 : w.heap.size ≤ w22.heap.size := hB22.size
          clear hb22
          go_wp2_with fail
          refine (TF.out _).mono ?_
          rintro e w23 ⟨rfl, hb23⟩
          have hB23 : Below w.heap.size w w23 := by
            refine Below.trans ?_ (Below.mono hb23 ?_)
            · go_grown
            · first | omega | (simp; done) | (simp; omega)
          have o23_r : ObjAt w23 (w1.heap.size) 47 [.int .i64 100, .int .i64 k, .int .i64 o] := ObjAt.below (H22_r.out) hb23
          clear q22_r_0 f22_r_0 q22_r_1 f22_r_1 q22_r_2 f22_r_2 H22_r
          have q23_r_0 := o23_r.cell (i := 0) rfl
          have f23_r_0 := o23_r.free 0
          have q23_r_1 := o23_r.cell (i := 1) rfl
          have f23_r_1 := o23_r.free 1
          have q23_r_2 := o23_r.cell (i := 2) rfl
          have f23_r_2 := o23_r.free 2
          have l23_r := o23_r.lt
          have H23_r := hide o23_r
          clear o23_r
          have hy23 : w.heap.size ≤ w23.heap.size := hB23.size
          clear hb23
          go_wp2_with fail
          refine (error_any 4 4 _ (hE.below (B := w.heap.size) (by go_grown) hE.pos)).mono ?_
          rintro e w24 ⟨rfl, hb24⟩
          have hB24 : Below w.heap.size w w24 := by
            refine Below.trans ?_ (Below.mono hb24 ?_)
            · go_grown
            · first | omega | (simp; done) | (simp; omega)
          have o24_r : ObjAt w24 (w1.heap.size) 47 [.int .i64 100, .int .i64 k, .int .i64 o] := ObjAt.below (ObjAt.alloc (H23_r.out) _) hb24
          have o24_x : ObjAt w24 (w23.heap.size) 47 [.int .i64 0, .int .i64 0, .int .i64 0] := ObjAt.below (objNew (by simp)) hb24
          clear q23_r_0 f23_r_0 q23_r_1 f23_r_1 q23_r_2 f23_r_2 H23_r
          have q24_r_0 := o24_r.cell (i := 0) rfl
          have f24_r_0 := o24_r.free 0
          have q24_r_1 := o24_r.cell (i := 1) rfl
          have f24_r_1 := o24_r.free 1
          have q24_r_2 := o24_r.cell (i := 2) rfl
          have f24_r_2 := o24_r.free 2
          have l24_r := o24_r.lt
          have H24_r := hide o24_r
          clear o24_r
          have q24_x_0 := o24_x.cell (i := 0) rfl
          have q24_x_1 := o24_x.cell (i := 1) rfl
          have q24_x_2 := o24_x.cell (i := 2) rfl
          have l24_x := o24_x.lt
          have H24_x := hide o24_x
          clear o24_x
          have hy24 : w.heap.size ≤ w24.heap.size := hB24.size
          clear hb24
          go_wp2
          go_ret
          exact ⟨rfl, by go_grown⟩
        · have hj3 : (j : Int) < 100 := by omega
          have hnx := ringTurn_right hre' hj3
          have KA : Hid (∀ W, Calls Tryd.prog 33 #[.agg #[.int .i64 j, .int .i64 k, .int .i64 o], .int .i64 j] W fun r w' => r = .returned (.tuple #[.int .i64 k, .nilIface]) ∧ Below W.heap.size W w') := hide (fun W => ringKey (c := 0) (by unfold ringKeyN; rw [if_neg (by simp [hre']), if_pos (epB_true.2 (by omega))]; exact ringOfN_self _ _ _) W)
          have KB : Hid (∀ W, Calls Tryd.prog 33 #[.agg #[.int .i64 j, .int .i64 k, .int .i64 o], .int .i64 (j + 1)] W fun r w' => r = .returned (.tuple #[.int .i64 0, .iface 94 (.int .i64 5)]) ∧ Below W.heap.size W w') := hide (fun W => ringKey (c := 5) (by unfold ringKeyN; rw [if_neg (by simp [hre']), if_pos (epB_true.2 (by omega))]; unfold ringOfN; rw [if_neg (by omega), if_neg (by omega), if_pos (by omega)]) W)
          have TF := hide (fun W => ringTurn_ok hre' hj3 W)
          obtain ⟨k2, hk2⟩ : ∃ k2, k2 = tagOf k [(j : Int) + 1] := ⟨_, rfl⟩
          rw [← hk2] at hnx TF
          have RC : Hid (∀ W, Calls Tryd.prog 35 #[.agg #[.int .i64 (j + 1), .int .i64 k2, .int .i64 k]] W fun r w' => r = .returned .nilIface ∧ Below W.heap.size W w') := ringCheck_eq (c := 0) hnx
          have KC : Hid (∀ W, Calls Tryd.prog 33 #[.agg #[.int .i64 ((j + 1)), .int .i64 k2, .int .i64 k], .int .i64 j] W fun r w' => r = .returned (.tuple #[.int .i64 k, .nilIface]) ∧ Below W.heap.size W w') := hide (fun W => ringKey (c := 0) (by unfold ringKeyN; rw [if_neg (by simp [hnx]), if_pos (epB_true.2 (by omega))]; exact ringOfN_elder _ _ _) W)
          have HNX := hide hnx
          by_cases hz : j = 0
          · subst hz
            clear hre hre' hj hj2 hk2 hnx h100
            go_wp2_with fail
            refine (KA.out _).mono ?_
            rintro e w21 ⟨rfl, hb21⟩
            have hB21 : Below w.heap.size w w21 := by
              refine Below.trans ?_ (Below.mono hb21 ?_)
              · go_grown
              · first | omega | (simp; done) | (simp; omega)
            have o21_r : ObjAt w21 (w1.heap.size) 47 [.int .i64 0, .int .i64 k, .int .i64 o] := ObjAt.below (HO.out) hb21
            clear p0 p1 p2
            have q21_r_0 := o21_r.cell (i := 0) rfl
            have f21_r_0 := o21_r.free 0
            have q21_r_1 := o21_r.cell (i := 1) rfl
            have f21_r_1 := o21_r.free 1
            have q21_r_2 := o21_r.cell (i := 2) rfl
            have f21_r_2 := o21_r.free 2
            have l21_r := o21_r.lt
            have H21_r := hide o21_r
            clear o21_r
            have hy21 : w.heap.size ≤ w21.heap.size := hB21.size
            clear hb21
            go_wp2_with fail
            refine (KB.out _).mono ?_
            rintro e w22 ⟨rfl, hb22⟩
            have hB22 : Below w.heap.size w w22 := by
              refine Below.trans ?_ (Below.mono hb22 ?_)
              · go_grown
              · first | omega | (simp; done) | (simp; omega)
            have o22_r : ObjAt w22 (w1.heap.size) 47 [.int .i64 0, .int .i64 k, .int .i64 o] := ObjAt.below (H21_r.out) hb22
            clear q21_r_0 f21_r_0 q21_r_1 f21_r_1 q21_r_2 f21_r_2 H21_r
            have q22_r_0 := o22_r.cell (i := 0) rfl
            have f22_r_0 := o22_r.free 0
            have q22_r_1 := o22_r.cell (i := 1) rfl
            have f22_r_1 := o22_r.free 1
            have q22_r_2 := o22_r.cell (i := 2) rfl
            have f22_r_2 := o22_r.free 2
            have l22_r := o22_r.lt
            have H22_r := hide o22_r
            clear o22_r
            have hy22 : w.heap.size ≤ w22.heap.size := hB22.size
            clear hb22
            go_wp2_with fail
            refine (TF.out _).mono ?_
            rintro e w23 ⟨rfl, hb23⟩
            have hB23 : Below w.heap.size w w23 := by
              refine Below.trans ?_ (Below.mono hb23 ?_)
              · go_grown
              · first | omega | (simp; done) | (simp; omega)
            have o23_r : ObjAt w23 (w1.heap.size) 47 [.int .i64 0, .int .i64 k, .int .i64 o] := ObjAt.below (H22_r.out) hb23
            clear q22_r_0 f22_r_0 q22_r_1 f22_r_1 q22_r_2 f22_r_2 H22_r
            have q23_r_0 := o23_r.cell (i := 0) rfl
            have f23_r_0 := o23_r.free 0
            have q23_r_1 := o23_r.cell (i := 1) rfl
            have f23_r_1 := o23_r.free 1
            have q23_r_2 := o23_r.cell (i := 2) rfl
            have f23_r_2 := o23_r.free 2
            have l23_r := o23_r.lt
            have H23_r := hide o23_r
            clear o23_r
            have hy23 : w.heap.size ≤ w23.heap.size := hB23.size
            clear hb23
            go_wp2_with fail
            refine (error_any 5 5 _ (hE.below (B := w.heap.size) (by go_grown) hE.pos)).mono ?_
            rintro e w24 ⟨rfl, hb24⟩
            have hB24 : Below w.heap.size w w24 := by
              refine Below.trans ?_ (Below.mono hb24 ?_)
              · go_grown
              · first | omega | (simp; done) | (simp; omega)
            have o24_r : ObjAt w24 (w1.heap.size) 47 [.int .i64 0, .int .i64 k, .int .i64 o] := ObjAt.below (ObjAt.alloc (H23_r.out) _) hb24
            have o24_x : ObjAt w24 (w23.heap.size) 47 [.int .i64 1, .int .i64 k2, .int .i64 k] := ObjAt.below (objNew (by simp)) hb24
            clear q23_r_0 f23_r_0 q23_r_1 f23_r_1 q23_r_2 f23_r_2 H23_r
            have q24_r_0 := o24_r.cell (i := 0) rfl
            have f24_r_0 := o24_r.free 0
            have q24_r_1 := o24_r.cell (i := 1) rfl
            have f24_r_1 := o24_r.free 1
            have q24_r_2 := o24_r.cell (i := 2) rfl
            have f24_r_2 := o24_r.free 2
            have l24_r := o24_r.lt
            have H24_r := hide o24_r
            clear o24_r
            have q24_x_0 := o24_x.cell (i := 0) rfl
            have q24_x_1 := o24_x.cell (i := 1) rfl
            have q24_x_2 := o24_x.cell (i := 2) rfl
            have l24_x := o24_x.lt
            have H24_x := hide o24_x
            clear o24_x
            have hy24 : w.heap.size ≤ w24.heap.size := hB24.size
            clear hb24
            go_wp2_with fail
            refine (RC.out _).mono ?_
            rintro e w25 ⟨rfl, hb25⟩
            have hB25 : Below w.heap.size w w25 := by
              refine Below.trans ?_ (Below.mono hb25 ?_)
              · go_grown
              · first | omega | (simp; done) | (simp; omega)
            have o25_r : ObjAt w25 (w1.heap.size) 47 [.int .i64 0, .int .i64 k, .int .i64 o] := ObjAt.below (H24_r.out) hb25
            have o25_x : ObjAt w25 (w23.heap.size) 47 [.int .i64 1, .int .i64 k2, .int .i64 k] := ObjAt.below (H24_x.out) hb25
            clear q24_r_0 f24_r_0 q24_r_1 f24_r_1 q24_r_2 f24_r_2 H24_r q24_x_0 q24_x_1 q24_x_2 H24_x
            have q25_r_0 := o25_r.cell (i := 0) rfl
            have f25_r_0 := o25_r.free 0
            have q25_r_1 := o25_r.cell (i := 1) rfl
            have f25_r_1 := o25_r.free 1
            have q25_r_2 := o25_r.cell (i := 2) rfl
            have f25_r_2 := o25_r.free 2
            have l25_r := o25_r.lt
            have H25_r := hide o25_r
            clear o25_r
            have q25_x_0 := o25_x.cell (i := 0) rfl
            have q25_x_1 := o25_x.cell (i := 1) rfl
            have q25_x_2 := o25_x.cell (i := 2) rfl
            have l25_x := o25_x.lt
            have H25_x := hide o25_x
            clear o25_x
            have hy25 : w.heap.size ≤ w25.heap.size := hB25.size
            clear hb25
            go_wp2_with fail
            refine (KC.out _).mono ?_
            rintro e w26 ⟨rfl, hb26⟩
            have hB26 : Below w.heap.size w w26 := by
              refine Below.trans ?_ (Below.mono hb26 ?_)
              · go_grown
              · first | omega | (simp; done) | (simp; omega)
            have o26_r : ObjAt w26 (w1.heap.size) 47 [.int .i64 0, .int .i64 k, .int .i64 o] := ObjAt.below (H25_r.out) hb26
            have o26_x : ObjAt w26 (w23.heap.size) 47 [.int .i64 1, .int .i64 k2, .int .i64 k] := ObjAt.below (H25_x.out) hb26
            clear q25_r_0 f25_r_0 q25_r_1 f25_r_1 q25_r_2 f25_r_2 H25_r q25_x_0 q25_x_1 q25_x_2 H25_x
            have q26_r_0 := o26_r.cell (i := 0) rfl
            have f26_r_0 := o26_r.free 0
            have q26_r_1 := o26_r.cell (i := 1) rfl
            have f26_r_1 := o26_r.free 1
            have q26_r_2 := o26_r.cell (i := 2) rfl
            have f26_r_2 := o26_r.free 2
            have l26_r := o26_r.lt
            have H26_r := hide o26_r
            clear o26_r
            have q26_x_0 := o26_x.cell (i := 0) rfl
            have q26_x_1 := o26_x.cell (i := 1) rfl
            have q26_x_2 := o26_x.cell (i := 2) rfl
            have l26_x := o26_x.lt
            have H26_x := hide o26_x
            clear o26_x
            have hy26 : w.heap.size ≤ w26.heap.size := hB26.size
            clear hb26
            go_wp2
            go_roundw
            case rel => exact ⟨1, k2, k, by go_num, by omega, by simpa using HNX, ObjAt.set3 (H26_r.out), by go_grown⟩
            case measure => simp [intOf] <;> omega
          · have hz2 : 0 < (j : Int) := by omega
            have KD : Hid (∀ W, Calls Tryd.prog 33 #[.agg #[.int .i64 ((j + 1)), .int .i64 k2, .int .i64 k], .int .i64 (j - 1)] W fun r w' => r = .returned (.tuple #[.int .i64 0, .iface 94 (.int .i64 9)]) ∧ Below W.heap.size W w') := hide (fun W => ringKey (c := 9) (by unfold ringKeyN; rw [if_neg (by simp [hnx]), if_pos (epB_true.2 (by omega))]; have := ringOfN_gone ((j : Int) - 1) k2 k 2 (by omega); rwa [show (j : Int) - 1 + 2 = j + 1 by omega] at this) W)
            clear hre hre' hj2 hk2 hnx h100
            go_wp2_with fail
            refine (KA.out _).mono ?_
            rintro e w21 ⟨rfl, hb21⟩
            have hB21 : Below w.heap.size w w21 := by
              refine Below.trans ?_ (Below.mono hb21 ?_)
              · go_grown
              · first | omega | (simp; done) | (simp; omega)
            have o21_r : ObjAt w21 (w1.heap.size) 47 [.int .i64 j, .int .i64 k, .int .i64 o] := ObjAt.below (HO.out) hb21
            clear p0 p1 p2
            have q21_r_0 := o21_r.cell (i := 0) rfl
            have f21_r_0 := o21_r.free 0
            have q21_r_1 := o21_r.cell (i := 1) rfl
            have f21_r_1 := o21_r.free 1
            have q21_r_2 := o21_r.cell (i := 2) rfl
            have f21_r_2 := o21_r.free 2
            have l21_r := o21_r.lt
            have H21_r := hide o21_r
            clear o21_r
            have hy21 : w.heap.size ≤ w21.heap.size := hB21.size
            clear hb21
            go_wp2_with fail
            refine (KB.out _).mono ?_
            rintro e w22 ⟨rfl, hb22⟩
            have hB22 : Below w.heap.size w w22 := by
              refine Below.trans ?_ (Below.mono hb22 ?_)
              · go_grown
              · first | omega | (simp; done) | (simp; omega)
            have o22_r : ObjAt w22 (w1.heap.size) 47 [.int .i64 j, .int .i64 k, .int .i64 o] := ObjAt.below (H21_r.out) hb22
            clear q21_r_0 f21_r_0 q21_r_1 f21_r_1 q21_r_2 f21_r_2 H21_r
            have q22_r_0 := o22_r.cell (i := 0) rfl
            have f22_r_0 := o22_r.free 0
            have q22_r_1 := o22_r.cell (i := 1) rfl
            have f22_r_1 := o22_r.free 1
            have q22_r_2 := o22_r.cell (i := 2) rfl
            have f22_r_2 := o22_r.free 2
            have l22_r := o22_r.lt
            have H22_r := hide o22_r
            clear o22_r
            have hy22 : w.heap.size ≤ w22.heap.size := hB22.size
            clear hb22
            go_wp2_with fail
            refine (TF.out _).mono ?_
            rintro e w23 ⟨rfl, hb23⟩
            have hB23 : Below w.heap.size w w23 := by
              refine Below.trans ?_ (Below.mono hb23 ?_)
              · go_grown
              · first | omega | (simp; done) | (simp; omega)
            have o23_r : ObjAt w23 (w1.heap.size) 47 [.int .i64 j, .int .i64 k, .int .i64 o] := ObjAt.below (H22_r.out) hb23
            clear q22_r_0 f22_r_0 q22_r_1 f22_r_1 q22_r_2 f22_r_2 H22_r
            have q23_r_0 := o23_r.cell (i := 0) rfl
            have f23_r_0 := o23_r.free 0
            have q23_r_1 := o23_r.cell (i := 1) rfl
            have f23_r_1 := o23_r.free 1
            have q23_r_2 := o23_r.cell (i := 2) rfl
            have f23_r_2 := o23_r.free 2
            have l23_r := o23_r.lt
            have H23_r := hide o23_r
            clear o23_r
            have hy23 : w.heap.size ≤ w23.heap.size := hB23.size
            clear hb23
            go_wp2_with fail
            refine (error_any 5 5 _ (hE.below (B := w.heap.size) (by go_grown) hE.pos)).mono ?_
            rintro e w24 ⟨rfl, hb24⟩
            have hB24 : Below w.heap.size w w24 := by
              refine Below.trans ?_ (Below.mono hb24 ?_)
              · go_grown
              · first | omega | (simp; done) | (simp; omega)
            have o24_r : ObjAt w24 (w1.heap.size) 47 [.int .i64 j, .int .i64 k, .int .i64 o] := ObjAt.below (ObjAt.alloc (H23_r.out) _) hb24
            have o24_x : ObjAt w24 (w23.heap.size) 47 [.int .i64 ((j + 1)), .int .i64 k2, .int .i64 k] := ObjAt.below (objNew (by simp)) hb24
            clear q23_r_0 f23_r_0 q23_r_1 f23_r_1 q23_r_2 f23_r_2 H23_r
            have q24_r_0 := o24_r.cell (i := 0) rfl
            have f24_r_0 := o24_r.free 0
            have q24_r_1 := o24_r.cell (i := 1) rfl
            have f24_r_1 := o24_r.free 1
            have q24_r_2 := o24_r.cell (i := 2) rfl
            have f24_r_2 := o24_r.free 2
            have l24_r := o24_r.lt
            have H24_r := hide o24_r
            clear o24_r
            have q24_x_0 := o24_x.cell (i := 0) rfl
            have q24_x_1 := o24_x.cell (i := 1) rfl
            have q24_x_2 := o24_x.cell (i := 2) rfl
            have l24_x := o24_x.lt
            have H24_x := hide o24_x
            clear o24_x
            have hy24 : w.heap.size ≤ w24.heap.size := hB24.size
            clear hb24
            go_wp2_with fail
            refine (RC.out _).mono ?_
            rintro e w25 ⟨rfl, hb25⟩
            have hB25 : Below w.heap.size w w25 := by
              refine Below.trans ?_ (Below.mono hb25 ?_)
              · go_grown
              · first | omega | (simp; done) | (simp; omega)
            have o25_r : ObjAt w25 (w1.heap.size) 47 [.int .i64 j, .int .i64 k, .int .i64 o] := ObjAt.below (H24_r.out) hb25
            have o25_x : ObjAt w25 (w23.heap.size) 47 [.int .i64 ((j + 1)), .int .i64 k2, .int .i64 k] := ObjAt.below (H24_x.out) hb25
            clear q24_r_0 f24_r_0 q24_r_1 f24_r_1 q24_r_2 f24_r_2 H24_r q24_x_0 q24_x_1 q24_x_2 H24_x
            have q25_r_0 := o25_r.cell (i := 0) rfl
            have f25_r_0 := o25_r.free 0
            have q25_r_1 := o25_r.cell (i := 1) rfl
            have f25_r_1 := o25_r.free 1
            have q25_r_2 := o25_r.cell (i := 2) rfl
            have f25_r_2 := o25_r.free 2
            have l25_r := o25_r.lt
            have H25_r := hide o25_r
            clear o25_r
            have q25_x_0 := o25_x.cell (i := 0) rfl
            have q25_x_1 := o25_x.cell (i := 1) rfl
            have q25_x_2 := o25_x.cell (i := 2) rfl
            have l25_x := o25_x.lt
            have H25_x := hide o25_x
            clear o25_x
            have hy25 : w.heap.size ≤ w25.heap.size := hB25.size
            clear hb25
            go_wp2_with fail
            refine (KC.out _).mono ?_
            rintro e w26 ⟨rfl, hb26⟩
            have hB26 : Below w.heap.size w w26 := by
              refine Below.trans ?_ (Below.mono hb26 ?_)
              · go_grown
              · first | omega | (simp; done) | (simp; omega)
            have o26_r : ObjAt w26 (w1.heap.size) 47 [.int .i64 j, .int .i64 k, .int .i64 o] := ObjAt.below (H25_r.out) hb26
            have o26_x : ObjAt w26 (w23.heap.size) 47 [.int .i64 ((j + 1)), .int .i64 k2, .int .i64 k] := ObjAt.below (H25_x.out) hb26
            clear q25_r_0 f25_r_0 q25_r_1 f25_r_1 q25_r_2 f25_r_2 H25_r q25_x_0 q25_x_1 q25_x_2 H25_x
            have q26_r_0 := o26_r.cell (i := 0) rfl
            have f26_r_0 := o26_r.free 0
            have q26_r_1 := o26_r.cell (i := 1) rfl
            have f26_r_1 := o26_r.free 1
            have q26_r_2 := o26_r.cell (i := 2) rfl
            have f26_r_2 := o26_r.free 2
            have l26_r := o26_r.lt
            have H26_r := hide o26_r
            clear o26_r
            have q26_x_0 := o26_x.cell (i := 0) rfl
            have q26_x_1 := o26_x.cell (i := 1) rfl
            have q26_x_2 := o26_x.cell (i := 2) rfl
            have l26_x := o26_x.lt
            have H26_x := hide o26_x
            clear o26_x
            have hy26 : w.heap.size ≤ w26.heap.size := hB26.size
            clear hb26
            go_wp2_with fail
            refine (KD.out _).mono ?_
            rintro e w27 ⟨rfl, hb27⟩
            have hB27 : Below w.heap.size w w27 := by
              refine Below.trans ?_ (Below.mono hb27 ?_)
              · go_grown
              · first | omega | (simp; done) | (simp; omega)
            have o27_r : ObjAt w27 (w1.heap.size) 47 [.int .i64 j, .int .i64 k, .int .i64 o] := ObjAt.below (H26_r.out) hb27
            have o27_x : ObjAt w27 (w23.heap.size) 47 [.int .i64 ((j + 1)), .int .i64 k2, .int .i64 k] := ObjAt.below (H26_x.out) hb27
            clear q26_r_0 f26_r_0 q26_r_1 f26_r_1 q26_r_2 f26_r_2 H26_r q26_x_0 q26_x_1 q26_x_2 H26_x
            have q27_r_0 := o27_r.cell (i := 0) rfl
            have f27_r_0 := o27_r.free 0
            have q27_r_1 := o27_r.cell (i := 1) rfl
            have f27_r_1 := o27_r.free 1
            have q27_r_2 := o27_r.cell (i := 2) rfl
            have f27_r_2 := o27_r.free 2
            have l27_r := o27_r.lt
            have H27_r := hide o27_r
            clear o27_r
            have q27_x_0 := o27_x.cell (i := 0) rfl
            have q27_x_1 := o27_x.cell (i := 1) rfl
            have q27_x_2 := o27_x.cell (i := 2) rfl
            have l27_x := o27_x.lt
            have H27_x := hide o27_x
            clear o27_x
            have hy27 : w.heap.size ≤ w27.heap.size := hB27.size
            clear hb27
            go_wp2_with fail
            refine (error_any 9 9 _ (hE.below (B := w.heap.size) (by go_grown) hE.pos)).mono ?_
            rintro e w28 ⟨rfl, hb28⟩
            have hB28 : Below w.heap.size w w28 := by
              refine Below.trans ?_ (Below.mono hb28 ?_)
              · go_grown
              · first | omega | (simp; done) | (simp; omega)
            have o28_r : ObjAt w28 (w1.heap.size) 47 [.int .i64 j, .int .i64 k, .int .i64 o] := ObjAt.below (H27_r.out) hb28
            have o28_x : ObjAt w28 (w23.heap.size) 47 [.int .i64 ((j + 1)), .int .i64 k2, .int .i64 k] := ObjAt.below (H27_x.out) hb28
            clear q27_r_0 f27_r_0 q27_r_1 f27_r_1 q27_r_2 f27_r_2 H27_r q27_x_0 q27_x_1 q27_x_2 H27_x
            have q28_r_0 := o28_r.cell (i := 0) rfl
            have f28_r_0 := o28_r.free 0
            have q28_r_1 := o28_r.cell (i := 1) rfl
            have f28_r_1 := o28_r.free 1
            have q28_r_2 := o28_r.cell (i := 2) rfl
            have f28_r_2 := o28_r.free 2
            have l28_r := o28_r.lt
            have H28_r := hide o28_r
            clear o28_r
            have q28_x_0 := o28_x.cell (i := 0) rfl
            have q28_x_1 := o28_x.cell (i := 1) rfl
            have q28_x_2 := o28_x.cell (i := 2) rfl
            have l28_x := o28_x.lt
            have H28_x := hide o28_x
            clear o28_x
            have hy28 : w.heap.size ≤ w28.heap.size := hB28.size
            clear hb28
            go_wp2
            go_roundw
            case rel => exact ⟨j + 1, k2, k, by go_num, by omega, by simpa using HNX, ObjAt.set3 (H28_r.out), by go_grown⟩
            case measure => simp [intOf] <;> omega
      · have hm2 : many ≤ (j : Int) := by omega
        have RC : Hid (∀ W, Calls Tryd.prog 35 #[.agg #[.int .i64 j, .int .i64 k, .int .i64 o]] W fun r w' => r = .returned .nilIface ∧ Below W.heap.size W w') := ringCheck_eq (c := 0) hre'
        clear hre hre' hm
        go_wp2_with fail
        refine (RC.out _).mono ?_
        rintro e w21 ⟨rfl, hb21⟩
        have hB21 : Below w.heap.size w w21 := by
          refine Below.trans ?_ (Below.mono hb21 ?_)
          · go_grown
          · first | omega | (simp; done) | (simp; omega)
        have o21_r : ObjAt w21 (w1.heap.size) 47 [.int .i64 j, .int .i64 k, .int .i64 o] := ObjAt.below (HO.out) hb21
        clear p0 p1 p2
        have q21_r_0 := o21_r.cell (i := 0) rfl
        have f21_r_0 := o21_r.free 0
        have q21_r_1 := o21_r.cell (i := 1) rfl
        have f21_r_1 := o21_r.free 1
        have q21_r_2 := o21_r.cell (i := 2) rfl
        have f21_r_2 := o21_r.free 2
        have l21_r := o21_r.lt
        have H21_r := hide o21_r
        clear o21_r
        have hy21 : w.heap.size ≤ w21.heap.size := hB21.size
        clear hb21
        go_wp2
        go_ret
        exact ⟨rfl, by go_grown⟩
end Go.Proofs.YtelegodagepeeaaDoor
