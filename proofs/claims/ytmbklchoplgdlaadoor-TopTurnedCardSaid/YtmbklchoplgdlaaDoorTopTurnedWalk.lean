/- The walk of TopTurned. -/
import Derived.Test.YtmbklchoplgdlaaDoorTopOne
import Derived.Test.YtmbklchoplgdlaaDoorTokFacts
import Derived.Test.YtmbklchoplgdlaaDoorTickFacts
import Derived.Test.YtmbklchoplgdlaaDoorRingNew
import Derived.Test.YtmbklchoplgdlaaDoorRingTurn
import Derived.Test.YtmbklchoplgdlaaDoorJudgeOld
import Derived.Test.YtmbklchoplgdlaaDoorErr
import Derived.Test.YtmbklchoplgdlaaDoorObj4
import Derived.Deep.Cut
namespace Go.Proofs.YtmbklchoplgdlaaDoor
open Go.RowKit

theorem tokenMakeAny (e k o a t : Int) : ∃ x0 x1 x2 x3 c : Int, (∀ W, Calls Tryd.prog 12 #[.agg #[.int .i64 e, .int .i64 k, .int .i64 o], .int .i64 a, .int .i64 t] W fun r w' => r = .returned (.tuple #[.agg #[.int .i64 x0, .int .i64 x1, .int .i64 x2, .int .i64 x3], errV c]) ∧ Below W.heap.size W w') ∧ (c = 0 → ringE e k o = 0 ∧ inB a = true ∧ tmB t = true ∧ x0 = e ∧ x1 = a ∧ x2 = t ∧ x3 = tagOf k [1, a, t]) := by
  rcases tomE_cases e k o a t with ⟨hm, hr, ha, ht⟩ | hm
  · exact ⟨_, _, _, _, 0, tokenMake_ok hr ha ht, fun _ => ⟨hr, ha, ht, rfl, rfl, rfl, rfl⟩⟩
  · exact ⟨0, 0, 0, 0, _, tokenMake_bad rfl hm, fun h => absurd h hm⟩
theorem ticketMakeAny (e k o n u : Int) : ∃ x0 x1 x2 x3 c : Int, (∀ W, Calls Tryd.prog 13 #[.agg #[.int .i64 e, .int .i64 k, .int .i64 o], .int .i64 n, .int .i64 u] W fun r w' => r = .returned (.tuple #[.agg #[.int .i64 x0, .int .i64 x1, .int .i64 x2, .int .i64 x3], errV c]) ∧ Below W.heap.size W w') ∧ (c = 0 → ringE e k o = 0 ∧ inB n = true ∧ tmB u = true ∧ x0 = e ∧ x1 = n ∧ x2 = u ∧ x3 = tagOf k [2, n, u]) := by
  rcases tkmE_cases e k o n u with ⟨hm, hr, ha, ht⟩ | hm
  · exact ⟨_, _, _, _, 0, ticketMake_ok hr ha ht, fun _ => ⟨hr, ha, ht, rfl, rfl, rfl, rfl⟩⟩
  · exact ⟨0, 0, 0, 0, _, ticketMake_bad rfl hm, fun h => absurd h hm⟩
set_option maxRecDepth 100000 in
set_option maxHeartbeats 16000000 in
theorem walkTopTurned (w : World) (seed : Int) (_w0 : (Lit.int .i64 seed).wf = true) (turns : Int) (_w1 : (Lit.int .i64 turns).wf = true) (ad : Int) (_w2 : (Lit.int .i64 ad).wf = true) (tm : Int) (_w3 : (Lit.int .i64 tm).wf = true) (n : Int) (_w4 : (Lit.int .i64 n).wf = true) (hE : ErrT w) :
    Calls Tryd.prog 3 #[.int .i64 seed, .int .i64 turns, .int .i64 ad, .int .i64 tm, .int .i64 n] w fun e w' => e = .returned (.bool true) ∧ Below w.heap.size w w' := by
  clear _w0 _w1 _w2 _w3 _w4
  have ON := hide (fun W => topOne W)
  cases hs : inB seed
  · have NW := hide (fun W => ringNew_bad hs W)
    clear hs
    go_enter Tryd.func3, Tryd.ntmps3
    go_wp2_with fail
    refine (ON.out _).mono ?_
    rintro e w1 ⟨rfl, hb1⟩
    have hB1 : Below w.heap.size w w1 := by
      refine Below.trans ?_ (Below.mono hb1 ?_)
      · go_grown
      · first | omega | (simp; done) | (simp; omega)
    have hy1 : w.heap.size ≤ w1.heap.size := hB1.size
    clear hb1
    go_wp2_with fail
    refine (NW.out _).mono ?_
    rintro e w2 ⟨rfl, hb2⟩
    have hB2 : Below w.heap.size w w2 := by
      refine Below.trans ?_ (Below.mono hb2 ?_)
      · go_grown
      · first | omega | (simp; done) | (simp; omega)
    have hy2 : w.heap.size ≤ w2.heap.size := hB2.size
    clear hb2
    go_wp2
    go_ret
    exact ⟨rfl, by go_grown⟩
  · have hr0 := ringNew_key hs
    have NW := hide (fun W => ringNew_ok hs W)
    obtain ⟨v, hv⟩ : ∃ v, v = tagOf seed [0] := ⟨_, rfl⟩
    rw [← hv] at hr0 NW
    obtain ⟨x0, x1, x2, x3, c1, hM1, hx⟩ := tokenMakeAny 0 v 0 ad tm
    obtain ⟨y0, y1, y2, y3, c2, hM2, hy⟩ := ticketMakeAny 0 v 0 n tm
    have M1 := hide hM1
    have M2 := hide hM2
    have HX := hide hx
    have HY := hide hy
    have HR0 := hide hr0
    clear hs hv hr0 hM1 hM2 hx hy
    go_enter Tryd.func3, Tryd.ntmps3
    go_wp2_with fail
    refine (ON.out _).mono ?_
    rintro e w1 ⟨rfl, hb1⟩
    have hB1 : Below w.heap.size w w1 := by
      refine Below.trans ?_ (Below.mono hb1 ?_)
      · go_grown
      · first | omega | (simp; done) | (simp; omega)
    have hy1 : w.heap.size ≤ w1.heap.size := hB1.size
    clear hb1
    go_wp2_with fail
    refine (NW.out _).mono ?_
    rintro e w2 ⟨rfl, hb2⟩
    have hB2 : Below w.heap.size w w2 := by
      refine Below.trans ?_ (Below.mono hb2 ?_)
      · go_grown
      · first | omega | (simp; done) | (simp; omega)
    have hy2 : w.heap.size ≤ w2.heap.size := hB2.size
    clear hb2
    go_wp2_with fail
    refine (M1.out _).mono ?_
    rintro e w3 ⟨rfl, hb3⟩
    have hB3 : Below w.heap.size w w3 := by
      refine Below.trans ?_ (Below.mono hb3 ?_)
      · go_grown
      · first | omega | (simp; done) | (simp; omega)
    have o3_r : ObjAt w3 (w2.heap.size) 24 [.int .i64 0, .int .i64 v, .int .i64 0] := ObjAt.below (objNew (by simp)) hb3
    have q3_r_0 := o3_r.cell (i := 0) rfl
    have f3_r_0 := o3_r.free 0
    have q3_r_1 := o3_r.cell (i := 1) rfl
    have f3_r_1 := o3_r.free 1
    have q3_r_2 := o3_r.cell (i := 2) rfl
    have f3_r_2 := o3_r.free 2
    have l3_r := o3_r.lt
    have H3_r := hide o3_r
    clear o3_r
    have hy3 : w.heap.size ≤ w3.heap.size := hB3.size
    clear hb3
    go_wp2_with fail
    refine (M2.out _).mono ?_
    rintro e w4 ⟨rfl, hb4⟩
    have hB4 : Below w.heap.size w w4 := by
      refine Below.trans ?_ (Below.mono hb4 ?_)
      · go_grown
      · first | omega | (simp; done) | (simp; omega)
    have o4_r : ObjAt w4 (w2.heap.size) 24 [.int .i64 0, .int .i64 v, .int .i64 0] := ObjAt.below (ObjAt.alloc (H3_r.out) _) hb4
    have o4_t : ObjAt w4 (w3.heap.size) 30 [.int .i64 x0, .int .i64 x1, .int .i64 x2, .int .i64 x3] := ObjAt.below (objNew (by simp)) hb4
    clear q3_r_0 f3_r_0 q3_r_1 f3_r_1 q3_r_2 f3_r_2 H3_r
    have q4_r_0 := o4_r.cell (i := 0) rfl
    have f4_r_0 := o4_r.free 0
    have q4_r_1 := o4_r.cell (i := 1) rfl
    have f4_r_1 := o4_r.free 1
    have q4_r_2 := o4_r.cell (i := 2) rfl
    have f4_r_2 := o4_r.free 2
    have l4_r := o4_r.lt
    have H4_r := hide o4_r
    clear o4_r
    have q4_t_0 := o4_t.cell (i := 0) rfl
    have q4_t_1 := o4_t.cell (i := 1) rfl
    have q4_t_2 := o4_t.cell (i := 2) rfl
    have q4_t_3 := o4_t.cell (i := 3) rfl
    have l4_t := o4_t.lt
    have H4_t := hide o4_t
    clear o4_t
    have hy4 : w.heap.size ≤ w4.heap.size := hB4.size
    clear hb4
    go_wp2_with fail
    go_loopw [18] (fun i wr => ∃ (j : Nat) (k o : Int), i = .int .i64 (j : Int) ∧ j ≤ 8 ∧ Hid (ringE j k o = 0) ∧ Hid (j = 0 → k = v) ∧ ObjAt wr (w2.heap.size) 24 [.int .i64 (j : Int), .int .i64 k, .int .i64 o] ∧ ObjAt wr (w3.heap.size) 30 [.int .i64 x0, .int .i64 x1, .int .i64 x2, .int .i64 x3] ∧ ObjAt wr (w4.heap.size) 34 [.int .i64 y0, .int .i64 y1, .int .i64 y2, .int .i64 y3] ∧ Below w.heap.size w wr) (fun i _ => 20 - (intOf i).toNat)
    case atStart => exact ⟨0, v, 0, rfl, by omega, HR0, fun _ => rfl, ObjAt.alloc (H4_r.out) _, ObjAt.alloc (H4_t.out) _, objNew (by simp), by go_grown⟩
    case round =>
      obtain ⟨j, k, o, rfl, hj, hre, hkv, ho_r, ho_t, ho_u, hb⟩ := hrel
      clear ON NW M1 M2 HR0 q4_r_0 f4_r_0 q4_r_1 f4_r_1 q4_r_2 f4_r_2 H4_r q4_t_0 q4_t_1 q4_t_2 q4_t_3 H4_t
      have lrt : w2.heap.size < w3.heap.size := by omega
      have ltu : w3.heap.size < w4.heap.size := by omega
      have lwr : w.heap.size ≤ w2.heap.size := by omega
      have hyr : w.heap.size ≤ wr.heap.size := hb.size
      have p_r_0 := ho_r.cell (i := 0) rfl
      have p_r_1 := ho_r.cell (i := 1) rfl
      have p_r_2 := ho_r.cell (i := 2) rfl
      have g_r_0 := ho_r.free 0
      have g_r_1 := ho_r.free 1
      have g_r_2 := ho_r.free 2
      have p_t_0 := ho_t.cell (i := 0) rfl
      have p_t_1 := ho_t.cell (i := 1) rfl
      have p_t_2 := ho_t.cell (i := 2) rfl
      have p_t_3 := ho_t.cell (i := 3) rfl
      have p_u_0 := ho_u.cell (i := 0) rfl
      have p_u_1 := ho_u.cell (i := 1) rfl
      have p_u_2 := ho_u.cell (i := 2) rfl
      have p_u_3 := ho_u.cell (i := 3) rfl
      have l_r := ho_r.lt
      have l_t := ho_t.lt
      have l_u := ho_u.lt
      have O_r := hide ho_r
      have O_t := hide ho_t
      have O_u := hide ho_u
      clear ho_r ho_t ho_u
      by_cases h1 : (j : Int) < turns
      · by_cases h2 : j < 8
        · have hj3 : (j : Int) < 100 := by omega
          have hnx := ringTurn_right hre.out hj3
          have TF := hide (fun W => ringTurn_ok hre.out hj3 W)
          obtain ⟨k2, hk2⟩ : ∃ k2, k2 = tagOf k [(j : Int) + 1] := ⟨_, rfl⟩
          rw [← hk2] at hnx TF
          have HNX := hide hnx
          clear hk2 hnx
          by_cases hz : j = 0
          · subst hz
            have h1' : (0 : Int) < turns := by simpa using h1
            clear h1
            have hkv' := hkv.out rfl
            clear hkv
            subst hkv'
            go_wp2_with fail
            refine (TF.out _).mono ?_
            rintro e w21 ⟨rfl, hb21⟩
            have hB21 : Below w.heap.size w w21 := by
              refine Below.trans ?_ (Below.mono hb21 ?_)
              · go_grown
              · first | omega | (simp; done) | (simp; omega)
            have o21_r : ObjAt w21 (w2.heap.size) 24 [.int .i64 0, .int .i64 k, .int .i64 o] := ObjAt.below (O_r.out) hb21
            have o21_t : ObjAt w21 (w3.heap.size) 30 [.int .i64 x0, .int .i64 x1, .int .i64 x2, .int .i64 x3] := ObjAt.below (O_t.out) hb21
            have o21_u : ObjAt w21 (w4.heap.size) 34 [.int .i64 y0, .int .i64 y1, .int .i64 y2, .int .i64 y3] := ObjAt.below (O_u.out) hb21
            clear p_r_0 p_r_1 p_r_2 g_r_0 g_r_1 g_r_2 p_t_0 p_t_1 p_t_2 p_t_3 p_u_0 p_u_1 p_u_2 p_u_3 O_r O_t O_u
            have q21_r_0 := o21_r.cell (i := 0) rfl
            have f21_r_0 := o21_r.free 0
            have q21_r_1 := o21_r.cell (i := 1) rfl
            have f21_r_1 := o21_r.free 1
            have q21_r_2 := o21_r.cell (i := 2) rfl
            have f21_r_2 := o21_r.free 2
            have l21_r := o21_r.lt
            have H21_r := hide o21_r
            clear o21_r
            have q21_t_0 := o21_t.cell (i := 0) rfl
            have q21_t_1 := o21_t.cell (i := 1) rfl
            have q21_t_2 := o21_t.cell (i := 2) rfl
            have q21_t_3 := o21_t.cell (i := 3) rfl
            have l21_t := o21_t.lt
            have H21_t := hide o21_t
            clear o21_t
            have q21_u_0 := o21_u.cell (i := 0) rfl
            have q21_u_1 := o21_u.cell (i := 1) rfl
            have q21_u_2 := o21_u.cell (i := 2) rfl
            have q21_u_3 := o21_u.cell (i := 3) rfl
            have l21_u := o21_u.lt
            have H21_u := hide o21_u
            clear o21_u
            have hy21 : w.heap.size ≤ w21.heap.size := hB21.size
            clear hb21
            go_upto_region 16 with (fail)
            obtain ⟨w22, hW22⟩ : ∃ W : World, W = (((w21.setCell ⟨w2.heap.size, 0, none⟩ (.int .i64 1)).setCell ⟨w2.heap.size, 1, none⟩ (.int .i64 k2)).setCell ⟨w2.heap.size, 2, none⟩ (.int .i64 k)).alloc (.cells #[.int .i64 1, .int .i64 k2, .int .i64 k] 24) := ⟨_, rfl⟩
            have hB22 : Below w.heap.size w w22 := by rw [hW22]; go_grown
            have o22_r : ObjAt w22 (w2.heap.size) 24 [.int .i64 1, .int .i64 k2, .int .i64 k] := by rw [hW22]; exact ObjAt.alloc (ObjAt.set3 (H21_r.out)) _
            have o22_t : ObjAt w22 (w3.heap.size) 30 [.int .i64 x0, .int .i64 x1, .int .i64 x2, .int .i64 x3] := by rw [hW22]; exact ObjAt.alloc (ObjAt.other3 (H21_t.out) (by omega)) _
            have o22_u : ObjAt w22 (w4.heap.size) 34 [.int .i64 y0, .int .i64 y1, .int .i64 y2, .int .i64 y3] := by rw [hW22]; exact ObjAt.alloc (ObjAt.other3 (H21_u.out) (by omega)) _
            have o22_x : ObjAt w22 (w21.heap.size) 24 [.int .i64 1, .int .i64 k2, .int .i64 k] := by rw [hW22]; exact objNew (by simp)
            rw [← hW22]
            clear hW22
            clear q21_r_0 f21_r_0 q21_r_1 f21_r_1 q21_r_2 f21_r_2 H21_r q21_t_0 q21_t_1 q21_t_2 q21_t_3 H21_t q21_u_0 q21_u_1 q21_u_2 q21_u_3 H21_u
            have q22_r_0 := o22_r.cell (i := 0) rfl
            have f22_r_0 := o22_r.free 0
            have q22_r_1 := o22_r.cell (i := 1) rfl
            have f22_r_1 := o22_r.free 1
            have q22_r_2 := o22_r.cell (i := 2) rfl
            have f22_r_2 := o22_r.free 2
            have l22_r := o22_r.lt
            have H22_r := hide o22_r
            clear o22_r
            have q22_t_0 := o22_t.cell (i := 0) rfl
            have q22_t_1 := o22_t.cell (i := 1) rfl
            have q22_t_2 := o22_t.cell (i := 2) rfl
            have q22_t_3 := o22_t.cell (i := 3) rfl
            have l22_t := o22_t.lt
            have H22_t := hide o22_t
            clear o22_t
            have q22_u_0 := o22_u.cell (i := 0) rfl
            have q22_u_1 := o22_u.cell (i := 1) rfl
            have q22_u_2 := o22_u.cell (i := 2) rfl
            have q22_u_3 := o22_u.cell (i := 3) rfl
            have l22_u := o22_u.lt
            have H22_u := hide o22_u
            clear o22_u
            have q22_x_0 := o22_x.cell (i := 0) rfl
            have q22_x_1 := o22_x.cell (i := 1) rfl
            have q22_x_2 := o22_x.cell (i := 2) rfl
            have l22_x := o22_x.lt
            have H22_x := hide o22_x
            clear o22_x
            have hy22 : w.heap.size ≤ w22.heap.size := hB22.size
            by_cases hc1 : c1 = 0
            ·
              subst hc1
              obtain ⟨_, ha, ht, e0, e1, e2, e3⟩ := HX.out rfl
              have CA : Hid (∀ W, Calls Tryd.prog 15 #[.agg #[.int .i64 1, .int .i64 k2, .int .i64 k], .agg #[.int .i64 x0, .int .i64 x1, .int .i64 x2, .int .i64 x3], .int .i64 ad, .int .i64 tm, .int .i64 0] W fun r w' => r = .returned (.nilIface) ∧ Below W.heap.size W w') := tokenCheck_eq (c := 0) (by rw [e0, e1, e2, e3, tokE_at (by simpa using HNX.out) (by decide) (by simpa using ringOfN_elder 0 k2 k) ha ht ha ht (by decide), if_neg (by simp), if_neg (by omega)])
              clear ha ht e0 e1 e2 e3
              go_wp2_with fail
              refine (CA.out _).mono ?_
              rintro e w23 ⟨rfl, hb23⟩
              have hB23 : Below w.heap.size w w23 := by
                refine Below.trans ?_ (Below.mono hb23 ?_)
                · go_grown
                · first | omega | (simp; done) | (simp; omega)
              have o23_r : ObjAt w23 (w2.heap.size) 24 [.int .i64 1, .int .i64 k2, .int .i64 k] := ObjAt.below (H22_r.out) hb23
              have o23_t : ObjAt w23 (w3.heap.size) 30 [.int .i64 x0, .int .i64 x1, .int .i64 x2, .int .i64 x3] := ObjAt.below (H22_t.out) hb23
              have o23_u : ObjAt w23 (w4.heap.size) 34 [.int .i64 y0, .int .i64 y1, .int .i64 y2, .int .i64 y3] := ObjAt.below (H22_u.out) hb23
              clear q22_r_0 f22_r_0 q22_r_1 f22_r_1 q22_r_2 f22_r_2 H22_r q22_t_0 q22_t_1 q22_t_2 q22_t_3 H22_t q22_u_0 q22_u_1 q22_u_2 q22_u_3 H22_u q22_x_0 q22_x_1 q22_x_2 H22_x
              have q23_r_0 := o23_r.cell (i := 0) rfl
              have f23_r_0 := o23_r.free 0
              have q23_r_1 := o23_r.cell (i := 1) rfl
              have f23_r_1 := o23_r.free 1
              have q23_r_2 := o23_r.cell (i := 2) rfl
              have f23_r_2 := o23_r.free 2
              have l23_r := o23_r.lt
              have H23_r := hide o23_r
              clear o23_r
              have q23_t_0 := o23_t.cell (i := 0) rfl
              have q23_t_1 := o23_t.cell (i := 1) rfl
              have q23_t_2 := o23_t.cell (i := 2) rfl
              have q23_t_3 := o23_t.cell (i := 3) rfl
              have l23_t := o23_t.lt
              have H23_t := hide o23_t
              clear o23_t
              have q23_u_0 := o23_u.cell (i := 0) rfl
              have q23_u_1 := o23_u.cell (i := 1) rfl
              have q23_u_2 := o23_u.cell (i := 2) rfl
              have q23_u_3 := o23_u.cell (i := 3) rfl
              have l23_u := o23_u.lt
              have H23_u := hide o23_u
              clear o23_u
              have hy23 : w.heap.size ≤ w23.heap.size := hB23.size
              clear hb23
              by_cases hc2 : c2 = 0
              ·
                subst hc2
                obtain ⟨_, ha, ht, e0, e1, e2, e3⟩ := HY.out rfl
                have hte : tickE 1 k2 k y0 y1 y2 y3 tm = 0 := by rw [e0, e1, e2, e3, tickE_at (by simpa using HNX.out) (by decide) (by simpa using ringOfN_elder 0 k2 k) ha ht ht, if_neg (by omega)]
                have CB : Hid (∀ W, Calls Tryd.prog 17 #[.agg #[.int .i64 1, .int .i64 k2, .int .i64 k], .agg #[.int .i64 y0, .int .i64 y1, .int .i64 y2, .int .i64 y3], .int .i64 tm] W fun r w' => r = .returned (.nilIface) ∧ Below W.heap.size W w') := ticketCheck_eq (c := 0) hte
                have hold : oldN 1 k2 k y0 y1 y2 y3 tm = (!(y0 == 0 && y1 == 0 && y2 == 0 && y3 == 0), 0) := by unfold oldN; rw [if_neg (by have := HNX.out; simpa using this), if_neg (by simp [ht])]; simp [oldB, hte]
                have CO : Hid (∀ W, Calls Tryd.prog 18 #[.agg #[.int .i64 1, .int .i64 k2, .int .i64 k], .agg #[.int .i64 y0, .int .i64 y1, .int .i64 y2, .int .i64 y3], .int .i64 tm] W fun r w' => r = .returned (.tuple #[.bool (!(y0 == 0 && y1 == 0 && y2 == 0 && y3 == 0)), .nilIface]) ∧ Below W.heap.size W w') := judgeOld_eq (c := 0) hold
                clear ha ht e0 e1 e2 e3 hte hold
                go_wp2_with fail
                refine (CB.out _).mono ?_
                rintro e w24 ⟨rfl, hb24⟩
                have hB24 : Below w.heap.size w w24 := by
                  refine Below.trans ?_ (Below.mono hb24 ?_)
                  · go_grown
                  · first | omega | (simp; done) | (simp; omega)
                have o24_r : ObjAt w24 (w2.heap.size) 24 [.int .i64 1, .int .i64 k2, .int .i64 k] := ObjAt.below (H23_r.out) hb24
                have o24_t : ObjAt w24 (w3.heap.size) 30 [.int .i64 x0, .int .i64 x1, .int .i64 x2, .int .i64 x3] := ObjAt.below (H23_t.out) hb24
                have o24_u : ObjAt w24 (w4.heap.size) 34 [.int .i64 y0, .int .i64 y1, .int .i64 y2, .int .i64 y3] := ObjAt.below (H23_u.out) hb24
                clear q23_r_0 f23_r_0 q23_r_1 f23_r_1 q23_r_2 f23_r_2 H23_r q23_t_0 q23_t_1 q23_t_2 q23_t_3 H23_t q23_u_0 q23_u_1 q23_u_2 q23_u_3 H23_u
                have q24_r_0 := o24_r.cell (i := 0) rfl
                have f24_r_0 := o24_r.free 0
                have q24_r_1 := o24_r.cell (i := 1) rfl
                have f24_r_1 := o24_r.free 1
                have q24_r_2 := o24_r.cell (i := 2) rfl
                have f24_r_2 := o24_r.free 2
                have l24_r := o24_r.lt
                have H24_r := hide o24_r
                clear o24_r
                have q24_t_0 := o24_t.cell (i := 0) rfl
                have q24_t_1 := o24_t.cell (i := 1) rfl
                have q24_t_2 := o24_t.cell (i := 2) rfl
                have q24_t_3 := o24_t.cell (i := 3) rfl
                have l24_t := o24_t.lt
                have H24_t := hide o24_t
                clear o24_t
                have q24_u_0 := o24_u.cell (i := 0) rfl
                have q24_u_1 := o24_u.cell (i := 1) rfl
                have q24_u_2 := o24_u.cell (i := 2) rfl
                have q24_u_3 := o24_u.cell (i := 3) rfl
                have l24_u := o24_u.lt
                have H24_u := hide o24_u
                clear o24_u
                have hy24 : w.heap.size ≤ w24.heap.size := hB24.size
                clear hb24
                obtain ⟨q, hq⟩ : ∃ q, q = !(y0 == 0 && y1 == 0 && y2 == 0 && y3 == 0) := ⟨_, rfl⟩
                rw [← hq] at CO
                have HQ := hide hq
                clear hq
                go_wp2_with fail
                refine (CO.out _).mono ?_
                rintro e w25 ⟨rfl, hb25⟩
                have hB25 : Below w.heap.size w w25 := by
                  refine Below.trans ?_ (Below.mono hb25 ?_)
                  · go_grown
                  · first | omega | (simp; done) | (simp; omega)
                have o25_r : ObjAt w25 (w2.heap.size) 24 [.int .i64 1, .int .i64 k2, .int .i64 k] := ObjAt.below (ObjAt.alloc (H24_r.out) _) hb25
                have o25_t : ObjAt w25 (w3.heap.size) 30 [.int .i64 x0, .int .i64 x1, .int .i64 x2, .int .i64 x3] := ObjAt.below (ObjAt.alloc (H24_t.out) _) hb25
                have o25_u : ObjAt w25 (w4.heap.size) 34 [.int .i64 y0, .int .i64 y1, .int .i64 y2, .int .i64 y3] := ObjAt.below (ObjAt.alloc (H24_u.out) _) hb25
                have o25_none : ObjAt w25 (w24.heap.size) 34 [.int .i64 0, .int .i64 0, .int .i64 0, .int .i64 0] := ObjAt.below (objNew (by simp)) hb25
                clear q24_r_0 f24_r_0 q24_r_1 f24_r_1 q24_r_2 f24_r_2 H24_r q24_t_0 q24_t_1 q24_t_2 q24_t_3 H24_t q24_u_0 q24_u_1 q24_u_2 q24_u_3 H24_u
                have q25_r_0 := o25_r.cell (i := 0) rfl
                have f25_r_0 := o25_r.free 0
                have q25_r_1 := o25_r.cell (i := 1) rfl
                have f25_r_1 := o25_r.free 1
                have q25_r_2 := o25_r.cell (i := 2) rfl
                have f25_r_2 := o25_r.free 2
                have l25_r := o25_r.lt
                have H25_r := hide o25_r
                clear o25_r
                have q25_t_0 := o25_t.cell (i := 0) rfl
                have q25_t_1 := o25_t.cell (i := 1) rfl
                have q25_t_2 := o25_t.cell (i := 2) rfl
                have q25_t_3 := o25_t.cell (i := 3) rfl
                have l25_t := o25_t.lt
                have H25_t := hide o25_t
                clear o25_t
                have q25_u_0 := o25_u.cell (i := 0) rfl
                have q25_u_1 := o25_u.cell (i := 1) rfl
                have q25_u_2 := o25_u.cell (i := 2) rfl
                have q25_u_3 := o25_u.cell (i := 3) rfl
                have l25_u := o25_u.lt
                have H25_u := hide o25_u
                clear o25_u
                have q25_none_0 := o25_none.cell (i := 0) rfl
                have q25_none_1 := o25_none.cell (i := 1) rfl
                have q25_none_2 := o25_none.cell (i := 2) rfl
                have q25_none_3 := o25_none.cell (i := 3) rfl
                have l25_none := o25_none.lt
                have H25_none := hide o25_none
                clear o25_none
                have hy25 : w.heap.size ≤ w25.heap.size := hB25.size
                clear hb25
                have hq := HQ.out
                by_cases z0 : y0 = 0
                ·
                  by_cases z1 : y1 = 0
                  ·
                    by_cases z2 : y2 = 0
                    ·
                      by_cases z3 : y3 = 0
                      ·
                        have hqq : q = false := by rw [hq, z0, z1, z2, z3]; rfl
                        subst hqq
                        have t0 : (y0 == 0) = true := by simp [z0]
                        have t1 : (y1 == 0) = true := by simp [z1]
                        have t2 : (y2 == 0) = true := by simp [z2]
                        have t3 : (y3 == 0) = true := by simp [z3]
                        clear hq z0 z1 z2 z3
                        go_wp2
                        go_roundw
                        case rel => exact ⟨1, k2, k, by go_num, by omega, by simpa using HNX, fun h => by omega, H25_r.out, H25_t.out, H25_u.out, by go_grown⟩
                        case measure => simp [intOf] <;> omega
                      ·
                        have hqq : q = true := by rw [hq]; simp [z3]
                        subst hqq
                        have t0 : (y0 == 0) = true := by simp [z0]
                        have t1 : (y1 == 0) = true := by simp [z1]
                        have t2 : (y2 == 0) = true := by simp [z2]
                        have t3 : (y3 == 0) = false := beq_eq_false_iff_ne.2 z3
                        clear hq z0 z1 z2 z3
                        go_wp2
                        go_roundw
                        case rel => exact ⟨1, k2, k, by go_num, by omega, by simpa using HNX, fun h => by omega, H25_r.out, H25_t.out, H25_u.out, by go_grown⟩
                        case measure => simp [intOf] <;> omega
                    ·
                      have hqq : q = true := by rw [hq]; simp [z2]
                      subst hqq
                      have t0 : (y0 == 0) = true := by simp [z0]
                      have t1 : (y1 == 0) = true := by simp [z1]
                      have t2 : (y2 == 0) = false := beq_eq_false_iff_ne.2 z2
                      clear hq z0 z1 z2
                      go_wp2
                      go_roundw
                      case rel => exact ⟨1, k2, k, by go_num, by omega, by simpa using HNX, fun h => by omega, H25_r.out, H25_t.out, H25_u.out, by go_grown⟩
                      case measure => simp [intOf] <;> omega
                  ·
                    have hqq : q = true := by rw [hq]; simp [z1]
                    subst hqq
                    have t0 : (y0 == 0) = true := by simp [z0]
                    have t1 : (y1 == 0) = false := beq_eq_false_iff_ne.2 z1
                    clear hq z0 z1
                    go_wp2
                    go_roundw
                    case rel => exact ⟨1, k2, k, by go_num, by omega, by simpa using HNX, fun h => by omega, H25_r.out, H25_t.out, H25_u.out, by go_grown⟩
                    case measure => simp [intOf] <;> omega
                ·
                  have hqq : q = true := by rw [hq]; simp [z0]
                  subst hqq
                  have t0 : (y0 == 0) = false := beq_eq_false_iff_ne.2 z0
                  clear hq z0
                  go_wp2
                  go_roundw
                  case rel => exact ⟨1, k2, k, by go_num, by omega, by simpa using HNX, fun h => by omega, H25_r.out, H25_t.out, H25_u.out, by go_grown⟩
                  case measure => simp [intOf] <;> omega
              ·
                have t2 : (c2 == 0) = false := beq_eq_false_iff_ne.2 hc2
                clear hc2
                go_wp2
                go_roundw
                case rel => exact ⟨1, k2, k, by go_num, by omega, by simpa using HNX, fun h => by omega, H23_r.out, H23_t.out, H23_u.out, by go_grown⟩
                case measure => simp [intOf] <;> omega
            ·
              have t1 : (c1 == 0) = false := beq_eq_false_iff_ne.2 hc1
              clear hc1
              by_cases hc2 : c2 = 0
              ·
                subst hc2
                obtain ⟨_, ha, ht, e0, e1, e2, e3⟩ := HY.out rfl
                have hte : tickE 1 k2 k y0 y1 y2 y3 tm = 0 := by rw [e0, e1, e2, e3, tickE_at (by simpa using HNX.out) (by decide) (by simpa using ringOfN_elder 0 k2 k) ha ht ht, if_neg (by omega)]
                have CB : Hid (∀ W, Calls Tryd.prog 17 #[.agg #[.int .i64 1, .int .i64 k2, .int .i64 k], .agg #[.int .i64 y0, .int .i64 y1, .int .i64 y2, .int .i64 y3], .int .i64 tm] W fun r w' => r = .returned (.nilIface) ∧ Below W.heap.size W w') := ticketCheck_eq (c := 0) hte
                have hold : oldN 1 k2 k y0 y1 y2 y3 tm = (!(y0 == 0 && y1 == 0 && y2 == 0 && y3 == 0), 0) := by unfold oldN; rw [if_neg (by have := HNX.out; simpa using this), if_neg (by simp [ht])]; simp [oldB, hte]
                have CO : Hid (∀ W, Calls Tryd.prog 18 #[.agg #[.int .i64 1, .int .i64 k2, .int .i64 k], .agg #[.int .i64 y0, .int .i64 y1, .int .i64 y2, .int .i64 y3], .int .i64 tm] W fun r w' => r = .returned (.tuple #[.bool (!(y0 == 0 && y1 == 0 && y2 == 0 && y3 == 0)), .nilIface]) ∧ Below W.heap.size W w') := judgeOld_eq (c := 0) hold
                clear ha ht e0 e1 e2 e3 hte hold
                go_wp2_with fail
                refine (CB.out _).mono ?_
                rintro e w23 ⟨rfl, hb23⟩
                have hB23 : Below w.heap.size w w23 := by
                  refine Below.trans ?_ (Below.mono hb23 ?_)
                  · go_grown
                  · first | omega | (simp; done) | (simp; omega)
                have o23_r : ObjAt w23 (w2.heap.size) 24 [.int .i64 1, .int .i64 k2, .int .i64 k] := ObjAt.below (H22_r.out) hb23
                have o23_t : ObjAt w23 (w3.heap.size) 30 [.int .i64 x0, .int .i64 x1, .int .i64 x2, .int .i64 x3] := ObjAt.below (H22_t.out) hb23
                have o23_u : ObjAt w23 (w4.heap.size) 34 [.int .i64 y0, .int .i64 y1, .int .i64 y2, .int .i64 y3] := ObjAt.below (H22_u.out) hb23
                clear q22_r_0 f22_r_0 q22_r_1 f22_r_1 q22_r_2 f22_r_2 H22_r q22_t_0 q22_t_1 q22_t_2 q22_t_3 H22_t q22_u_0 q22_u_1 q22_u_2 q22_u_3 H22_u q22_x_0 q22_x_1 q22_x_2 H22_x
                have q23_r_0 := o23_r.cell (i := 0) rfl
                have f23_r_0 := o23_r.free 0
                have q23_r_1 := o23_r.cell (i := 1) rfl
                have f23_r_1 := o23_r.free 1
                have q23_r_2 := o23_r.cell (i := 2) rfl
                have f23_r_2 := o23_r.free 2
                have l23_r := o23_r.lt
                have H23_r := hide o23_r
                clear o23_r
                have q23_t_0 := o23_t.cell (i := 0) rfl
                have q23_t_1 := o23_t.cell (i := 1) rfl
                have q23_t_2 := o23_t.cell (i := 2) rfl
                have q23_t_3 := o23_t.cell (i := 3) rfl
                have l23_t := o23_t.lt
                have H23_t := hide o23_t
                clear o23_t
                have q23_u_0 := o23_u.cell (i := 0) rfl
                have q23_u_1 := o23_u.cell (i := 1) rfl
                have q23_u_2 := o23_u.cell (i := 2) rfl
                have q23_u_3 := o23_u.cell (i := 3) rfl
                have l23_u := o23_u.lt
                have H23_u := hide o23_u
                clear o23_u
                have hy23 : w.heap.size ≤ w23.heap.size := hB23.size
                clear hb23
                obtain ⟨q, hq⟩ : ∃ q, q = !(y0 == 0 && y1 == 0 && y2 == 0 && y3 == 0) := ⟨_, rfl⟩
                rw [← hq] at CO
                have HQ := hide hq
                clear hq
                go_wp2_with fail
                refine (CO.out _).mono ?_
                rintro e w24 ⟨rfl, hb24⟩
                have hB24 : Below w.heap.size w w24 := by
                  refine Below.trans ?_ (Below.mono hb24 ?_)
                  · go_grown
                  · first | omega | (simp; done) | (simp; omega)
                have o24_r : ObjAt w24 (w2.heap.size) 24 [.int .i64 1, .int .i64 k2, .int .i64 k] := ObjAt.below (ObjAt.alloc (H23_r.out) _) hb24
                have o24_t : ObjAt w24 (w3.heap.size) 30 [.int .i64 x0, .int .i64 x1, .int .i64 x2, .int .i64 x3] := ObjAt.below (ObjAt.alloc (H23_t.out) _) hb24
                have o24_u : ObjAt w24 (w4.heap.size) 34 [.int .i64 y0, .int .i64 y1, .int .i64 y2, .int .i64 y3] := ObjAt.below (ObjAt.alloc (H23_u.out) _) hb24
                have o24_none : ObjAt w24 (w23.heap.size) 34 [.int .i64 0, .int .i64 0, .int .i64 0, .int .i64 0] := ObjAt.below (objNew (by simp)) hb24
                clear q23_r_0 f23_r_0 q23_r_1 f23_r_1 q23_r_2 f23_r_2 H23_r q23_t_0 q23_t_1 q23_t_2 q23_t_3 H23_t q23_u_0 q23_u_1 q23_u_2 q23_u_3 H23_u
                have q24_r_0 := o24_r.cell (i := 0) rfl
                have f24_r_0 := o24_r.free 0
                have q24_r_1 := o24_r.cell (i := 1) rfl
                have f24_r_1 := o24_r.free 1
                have q24_r_2 := o24_r.cell (i := 2) rfl
                have f24_r_2 := o24_r.free 2
                have l24_r := o24_r.lt
                have H24_r := hide o24_r
                clear o24_r
                have q24_t_0 := o24_t.cell (i := 0) rfl
                have q24_t_1 := o24_t.cell (i := 1) rfl
                have q24_t_2 := o24_t.cell (i := 2) rfl
                have q24_t_3 := o24_t.cell (i := 3) rfl
                have l24_t := o24_t.lt
                have H24_t := hide o24_t
                clear o24_t
                have q24_u_0 := o24_u.cell (i := 0) rfl
                have q24_u_1 := o24_u.cell (i := 1) rfl
                have q24_u_2 := o24_u.cell (i := 2) rfl
                have q24_u_3 := o24_u.cell (i := 3) rfl
                have l24_u := o24_u.lt
                have H24_u := hide o24_u
                clear o24_u
                have q24_none_0 := o24_none.cell (i := 0) rfl
                have q24_none_1 := o24_none.cell (i := 1) rfl
                have q24_none_2 := o24_none.cell (i := 2) rfl
                have q24_none_3 := o24_none.cell (i := 3) rfl
                have l24_none := o24_none.lt
                have H24_none := hide o24_none
                clear o24_none
                have hy24 : w.heap.size ≤ w24.heap.size := hB24.size
                clear hb24
                have hq := HQ.out
                by_cases z0 : y0 = 0
                ·
                  by_cases z1 : y1 = 0
                  ·
                    by_cases z2 : y2 = 0
                    ·
                      by_cases z3 : y3 = 0
                      ·
                        have hqq : q = false := by rw [hq, z0, z1, z2, z3]; rfl
                        subst hqq
                        have t0 : (y0 == 0) = true := by simp [z0]
                        have t1 : (y1 == 0) = true := by simp [z1]
                        have t2 : (y2 == 0) = true := by simp [z2]
                        have t3 : (y3 == 0) = true := by simp [z3]
                        clear hq z0 z1 z2 z3
                        go_wp2
                        go_roundw
                        case rel => exact ⟨1, k2, k, by go_num, by omega, by simpa using HNX, fun h => by omega, H24_r.out, H24_t.out, H24_u.out, by go_grown⟩
                        case measure => simp [intOf] <;> omega
                      ·
                        have hqq : q = true := by rw [hq]; simp [z3]
                        subst hqq
                        have t0 : (y0 == 0) = true := by simp [z0]
                        have t1 : (y1 == 0) = true := by simp [z1]
                        have t2 : (y2 == 0) = true := by simp [z2]
                        have t3 : (y3 == 0) = false := beq_eq_false_iff_ne.2 z3
                        clear hq z0 z1 z2 z3
                        go_wp2
                        go_roundw
                        case rel => exact ⟨1, k2, k, by go_num, by omega, by simpa using HNX, fun h => by omega, H24_r.out, H24_t.out, H24_u.out, by go_grown⟩
                        case measure => simp [intOf] <;> omega
                    ·
                      have hqq : q = true := by rw [hq]; simp [z2]
                      subst hqq
                      have t0 : (y0 == 0) = true := by simp [z0]
                      have t1 : (y1 == 0) = true := by simp [z1]
                      have t2 : (y2 == 0) = false := beq_eq_false_iff_ne.2 z2
                      clear hq z0 z1 z2
                      go_wp2
                      go_roundw
                      case rel => exact ⟨1, k2, k, by go_num, by omega, by simpa using HNX, fun h => by omega, H24_r.out, H24_t.out, H24_u.out, by go_grown⟩
                      case measure => simp [intOf] <;> omega
                  ·
                    have hqq : q = true := by rw [hq]; simp [z1]
                    subst hqq
                    have t0 : (y0 == 0) = true := by simp [z0]
                    have t1 : (y1 == 0) = false := beq_eq_false_iff_ne.2 z1
                    clear hq z0 z1
                    go_wp2
                    go_roundw
                    case rel => exact ⟨1, k2, k, by go_num, by omega, by simpa using HNX, fun h => by omega, H24_r.out, H24_t.out, H24_u.out, by go_grown⟩
                    case measure => simp [intOf] <;> omega
                ·
                  have hqq : q = true := by rw [hq]; simp [z0]
                  subst hqq
                  have t0 : (y0 == 0) = false := beq_eq_false_iff_ne.2 z0
                  clear hq z0
                  go_wp2
                  go_roundw
                  case rel => exact ⟨1, k2, k, by go_num, by omega, by simpa using HNX, fun h => by omega, H24_r.out, H24_t.out, H24_u.out, by go_grown⟩
                  case measure => simp [intOf] <;> omega
              ·
                have t2 : (c2 == 0) = false := beq_eq_false_iff_ne.2 hc2
                clear hc2
                go_wp2
                go_roundw
                case rel => exact ⟨1, k2, k, by go_num, by omega, by simpa using HNX, fun h => by omega, H22_r.out, H22_t.out, H22_u.out, by go_grown⟩
                case measure => simp [intOf] <;> omega
          · have hz2 : 0 < (j : Int) := by omega
            clear hz hkv
            go_wp2_with fail
            refine (TF.out _).mono ?_
            rintro e w21 ⟨rfl, hb21⟩
            have hB21 : Below w.heap.size w w21 := by
              refine Below.trans ?_ (Below.mono hb21 ?_)
              · go_grown
              · first | omega | (simp; done) | (simp; omega)
            have o21_r : ObjAt w21 (w2.heap.size) 24 [.int .i64 j, .int .i64 k, .int .i64 o] := ObjAt.below (O_r.out) hb21
            have o21_t : ObjAt w21 (w3.heap.size) 30 [.int .i64 x0, .int .i64 x1, .int .i64 x2, .int .i64 x3] := ObjAt.below (O_t.out) hb21
            have o21_u : ObjAt w21 (w4.heap.size) 34 [.int .i64 y0, .int .i64 y1, .int .i64 y2, .int .i64 y3] := ObjAt.below (O_u.out) hb21
            clear p_r_0 p_r_1 p_r_2 g_r_0 g_r_1 g_r_2 p_t_0 p_t_1 p_t_2 p_t_3 p_u_0 p_u_1 p_u_2 p_u_3 O_r O_t O_u
            have q21_r_0 := o21_r.cell (i := 0) rfl
            have f21_r_0 := o21_r.free 0
            have q21_r_1 := o21_r.cell (i := 1) rfl
            have f21_r_1 := o21_r.free 1
            have q21_r_2 := o21_r.cell (i := 2) rfl
            have f21_r_2 := o21_r.free 2
            have l21_r := o21_r.lt
            have H21_r := hide o21_r
            clear o21_r
            have q21_t_0 := o21_t.cell (i := 0) rfl
            have q21_t_1 := o21_t.cell (i := 1) rfl
            have q21_t_2 := o21_t.cell (i := 2) rfl
            have q21_t_3 := o21_t.cell (i := 3) rfl
            have l21_t := o21_t.lt
            have H21_t := hide o21_t
            clear o21_t
            have q21_u_0 := o21_u.cell (i := 0) rfl
            have q21_u_1 := o21_u.cell (i := 1) rfl
            have q21_u_2 := o21_u.cell (i := 2) rfl
            have q21_u_3 := o21_u.cell (i := 3) rfl
            have l21_u := o21_u.lt
            have H21_u := hide o21_u
            clear o21_u
            have hy21 : w.heap.size ≤ w21.heap.size := hB21.size
            clear hb21
            go_upto_region 16 with (fail)
            obtain ⟨w22, hW22⟩ : ∃ W : World, W = (((w21.setCell ⟨w2.heap.size, 0, none⟩ (.int .i64 (j + 1))).setCell ⟨w2.heap.size, 1, none⟩ (.int .i64 k2)).setCell ⟨w2.heap.size, 2, none⟩ (.int .i64 k)).alloc (.cells #[.int .i64 (j + 1), .int .i64 k2, .int .i64 k] 24) := ⟨_, rfl⟩
            have hB22 : Below w.heap.size w w22 := by rw [hW22]; go_grown
            have o22_r : ObjAt w22 (w2.heap.size) 24 [.int .i64 (j + 1), .int .i64 k2, .int .i64 k] := by rw [hW22]; exact ObjAt.alloc (ObjAt.set3 (H21_r.out)) _
            have o22_t : ObjAt w22 (w3.heap.size) 30 [.int .i64 x0, .int .i64 x1, .int .i64 x2, .int .i64 x3] := by rw [hW22]; exact ObjAt.alloc (ObjAt.other3 (H21_t.out) (by omega)) _
            have o22_u : ObjAt w22 (w4.heap.size) 34 [.int .i64 y0, .int .i64 y1, .int .i64 y2, .int .i64 y3] := by rw [hW22]; exact ObjAt.alloc (ObjAt.other3 (H21_u.out) (by omega)) _
            have o22_x : ObjAt w22 (w21.heap.size) 24 [.int .i64 (j + 1), .int .i64 k2, .int .i64 k] := by rw [hW22]; exact objNew (by simp)
            rw [← hW22]
            clear hW22
            clear q21_r_0 f21_r_0 q21_r_1 f21_r_1 q21_r_2 f21_r_2 H21_r q21_t_0 q21_t_1 q21_t_2 q21_t_3 H21_t q21_u_0 q21_u_1 q21_u_2 q21_u_3 H21_u
            have q22_r_0 := o22_r.cell (i := 0) rfl
            have f22_r_0 := o22_r.free 0
            have q22_r_1 := o22_r.cell (i := 1) rfl
            have f22_r_1 := o22_r.free 1
            have q22_r_2 := o22_r.cell (i := 2) rfl
            have f22_r_2 := o22_r.free 2
            have l22_r := o22_r.lt
            have H22_r := hide o22_r
            clear o22_r
            have q22_t_0 := o22_t.cell (i := 0) rfl
            have q22_t_1 := o22_t.cell (i := 1) rfl
            have q22_t_2 := o22_t.cell (i := 2) rfl
            have q22_t_3 := o22_t.cell (i := 3) rfl
            have l22_t := o22_t.lt
            have H22_t := hide o22_t
            clear o22_t
            have q22_u_0 := o22_u.cell (i := 0) rfl
            have q22_u_1 := o22_u.cell (i := 1) rfl
            have q22_u_2 := o22_u.cell (i := 2) rfl
            have q22_u_3 := o22_u.cell (i := 3) rfl
            have l22_u := o22_u.lt
            have H22_u := hide o22_u
            clear o22_u
            have q22_x_0 := o22_x.cell (i := 0) rfl
            have q22_x_1 := o22_x.cell (i := 1) rfl
            have q22_x_2 := o22_x.cell (i := 2) rfl
            have l22_x := o22_x.lt
            have H22_x := hide o22_x
            clear o22_x
            have hy22 : w.heap.size ≤ w22.heap.size := hB22.size
            by_cases hc1 : c1 = 0
            ·
              subst hc1
              obtain ⟨_, ha, ht, e0, e1, e2, e3⟩ := HX.out rfl
              have CA : Hid (∀ W, Calls Tryd.prog 15 #[.agg #[.int .i64 (j + 1), .int .i64 k2, .int .i64 k], .agg #[.int .i64 x0, .int .i64 x1, .int .i64 x2, .int .i64 x3], .int .i64 ad, .int .i64 tm, .int .i64 0] W fun r w' => r = .returned (.iface 82 (.int .i64 9)) ∧ Below W.heap.size W w') := tokenCheck_eq (c := 9) (by rw [e0, e1, e2]; exact tokE_late (key := v) (x := 0) HNX.out (by decide) (by have := ringOfN_gone 0 k2 k (j + 1) (by omega); rwa [Int.zero_add] at this) ha ht e3 ha ht (by decide))
              clear ha ht e0 e1 e2 e3
              go_wp2_with fail
              refine (CA.out _).mono ?_
              rintro e w23 ⟨rfl, hb23⟩
              have hB23 : Below w.heap.size w w23 := by
                refine Below.trans ?_ (Below.mono hb23 ?_)
                · go_grown
                · first | omega | (simp; done) | (simp; omega)
              have o23_r : ObjAt w23 (w2.heap.size) 24 [.int .i64 (j + 1), .int .i64 k2, .int .i64 k] := ObjAt.below (H22_r.out) hb23
              have o23_t : ObjAt w23 (w3.heap.size) 30 [.int .i64 x0, .int .i64 x1, .int .i64 x2, .int .i64 x3] := ObjAt.below (H22_t.out) hb23
              have o23_u : ObjAt w23 (w4.heap.size) 34 [.int .i64 y0, .int .i64 y1, .int .i64 y2, .int .i64 y3] := ObjAt.below (H22_u.out) hb23
              clear q22_r_0 f22_r_0 q22_r_1 f22_r_1 q22_r_2 f22_r_2 H22_r q22_t_0 q22_t_1 q22_t_2 q22_t_3 H22_t q22_u_0 q22_u_1 q22_u_2 q22_u_3 H22_u q22_x_0 q22_x_1 q22_x_2 H22_x
              have q23_r_0 := o23_r.cell (i := 0) rfl
              have f23_r_0 := o23_r.free 0
              have q23_r_1 := o23_r.cell (i := 1) rfl
              have f23_r_1 := o23_r.free 1
              have q23_r_2 := o23_r.cell (i := 2) rfl
              have f23_r_2 := o23_r.free 2
              have l23_r := o23_r.lt
              have H23_r := hide o23_r
              clear o23_r
              have q23_t_0 := o23_t.cell (i := 0) rfl
              have q23_t_1 := o23_t.cell (i := 1) rfl
              have q23_t_2 := o23_t.cell (i := 2) rfl
              have q23_t_3 := o23_t.cell (i := 3) rfl
              have l23_t := o23_t.lt
              have H23_t := hide o23_t
              clear o23_t
              have q23_u_0 := o23_u.cell (i := 0) rfl
              have q23_u_1 := o23_u.cell (i := 1) rfl
              have q23_u_2 := o23_u.cell (i := 2) rfl
              have q23_u_3 := o23_u.cell (i := 3) rfl
              have l23_u := o23_u.lt
              have H23_u := hide o23_u
              clear o23_u
              have hy23 : w.heap.size ≤ w23.heap.size := hB23.size
              clear hb23
              go_wp2_with fail
              refine (error_any 9 9 _ (hE.below (B := w.heap.size) (by go_grown) hE.pos)).mono ?_
              rintro e w24 ⟨rfl, hb24⟩
              have hB24 : Below w.heap.size w w24 := by
                refine Below.trans ?_ (Below.mono hb24 ?_)
                · go_grown
                · first | omega | (simp; done) | (simp; omega)
              have o24_r : ObjAt w24 (w2.heap.size) 24 [.int .i64 (j + 1), .int .i64 k2, .int .i64 k] := ObjAt.below (H23_r.out) hb24
              have o24_t : ObjAt w24 (w3.heap.size) 30 [.int .i64 x0, .int .i64 x1, .int .i64 x2, .int .i64 x3] := ObjAt.below (H23_t.out) hb24
              have o24_u : ObjAt w24 (w4.heap.size) 34 [.int .i64 y0, .int .i64 y1, .int .i64 y2, .int .i64 y3] := ObjAt.below (H23_u.out) hb24
              clear q23_r_0 f23_r_0 q23_r_1 f23_r_1 q23_r_2 f23_r_2 H23_r q23_t_0 q23_t_1 q23_t_2 q23_t_3 H23_t q23_u_0 q23_u_1 q23_u_2 q23_u_3 H23_u
              have q24_r_0 := o24_r.cell (i := 0) rfl
              have f24_r_0 := o24_r.free 0
              have q24_r_1 := o24_r.cell (i := 1) rfl
              have f24_r_1 := o24_r.free 1
              have q24_r_2 := o24_r.cell (i := 2) rfl
              have f24_r_2 := o24_r.free 2
              have l24_r := o24_r.lt
              have H24_r := hide o24_r
              clear o24_r
              have q24_t_0 := o24_t.cell (i := 0) rfl
              have q24_t_1 := o24_t.cell (i := 1) rfl
              have q24_t_2 := o24_t.cell (i := 2) rfl
              have q24_t_3 := o24_t.cell (i := 3) rfl
              have l24_t := o24_t.lt
              have H24_t := hide o24_t
              clear o24_t
              have q24_u_0 := o24_u.cell (i := 0) rfl
              have q24_u_1 := o24_u.cell (i := 1) rfl
              have q24_u_2 := o24_u.cell (i := 2) rfl
              have q24_u_3 := o24_u.cell (i := 3) rfl
              have l24_u := o24_u.lt
              have H24_u := hide o24_u
              clear o24_u
              have hy24 : w.heap.size ≤ w24.heap.size := hB24.size
              clear hb24
              by_cases hc2 : c2 = 0
              ·
                subst hc2
                obtain ⟨_, ha, ht, e0, e1, e2, e3⟩ := HY.out rfl
                have hte : tickE (j + 1) k2 k y0 y1 y2 y3 tm = 9 := by rw [e0, e1, e2]; exact tickE_late (key := v) (x := 0) HNX.out (by decide) (by have := ringOfN_gone 0 k2 k (j + 1) (by omega); rwa [Int.zero_add] at this) ha ht e3 ht
                have CB : Hid (∀ W, Calls Tryd.prog 17 #[.agg #[.int .i64 (j + 1), .int .i64 k2, .int .i64 k], .agg #[.int .i64 y0, .int .i64 y1, .int .i64 y2, .int .i64 y3], .int .i64 tm] W fun r w' => r = .returned (.iface 82 (.int .i64 9)) ∧ Below W.heap.size W w') := ticketCheck_eq (c := 9) hte
                have hold : oldN (j + 1) k2 k y0 y1 y2 y3 tm = (false, 0) := by unfold oldN; rw [if_neg (by simp [HNX.out]), if_neg (by simp [ht])]; simp [oldB, hte]
                have CO : Hid (∀ W, Calls Tryd.prog 18 #[.agg #[.int .i64 (j + 1), .int .i64 k2, .int .i64 k], .agg #[.int .i64 y0, .int .i64 y1, .int .i64 y2, .int .i64 y3], .int .i64 tm] W fun r w' => r = .returned (.tuple #[.bool false, .nilIface]) ∧ Below W.heap.size W w') := judgeOld_eq (c := 0) hold
                clear ha ht e0 e1 e2 e3 hte hold
                go_wp2_with fail
                refine (CB.out _).mono ?_
                rintro e w25 ⟨rfl, hb25⟩
                have hB25 : Below w.heap.size w w25 := by
                  refine Below.trans ?_ (Below.mono hb25 ?_)
                  · go_grown
                  · first | omega | (simp; done) | (simp; omega)
                have o25_r : ObjAt w25 (w2.heap.size) 24 [.int .i64 (j + 1), .int .i64 k2, .int .i64 k] := ObjAt.below (H24_r.out) hb25
                have o25_t : ObjAt w25 (w3.heap.size) 30 [.int .i64 x0, .int .i64 x1, .int .i64 x2, .int .i64 x3] := ObjAt.below (H24_t.out) hb25
                have o25_u : ObjAt w25 (w4.heap.size) 34 [.int .i64 y0, .int .i64 y1, .int .i64 y2, .int .i64 y3] := ObjAt.below (H24_u.out) hb25
                clear q24_r_0 f24_r_0 q24_r_1 f24_r_1 q24_r_2 f24_r_2 H24_r q24_t_0 q24_t_1 q24_t_2 q24_t_3 H24_t q24_u_0 q24_u_1 q24_u_2 q24_u_3 H24_u
                have q25_r_0 := o25_r.cell (i := 0) rfl
                have f25_r_0 := o25_r.free 0
                have q25_r_1 := o25_r.cell (i := 1) rfl
                have f25_r_1 := o25_r.free 1
                have q25_r_2 := o25_r.cell (i := 2) rfl
                have f25_r_2 := o25_r.free 2
                have l25_r := o25_r.lt
                have H25_r := hide o25_r
                clear o25_r
                have q25_t_0 := o25_t.cell (i := 0) rfl
                have q25_t_1 := o25_t.cell (i := 1) rfl
                have q25_t_2 := o25_t.cell (i := 2) rfl
                have q25_t_3 := o25_t.cell (i := 3) rfl
                have l25_t := o25_t.lt
                have H25_t := hide o25_t
                clear o25_t
                have q25_u_0 := o25_u.cell (i := 0) rfl
                have q25_u_1 := o25_u.cell (i := 1) rfl
                have q25_u_2 := o25_u.cell (i := 2) rfl
                have q25_u_3 := o25_u.cell (i := 3) rfl
                have l25_u := o25_u.lt
                have H25_u := hide o25_u
                clear o25_u
                have hy25 : w.heap.size ≤ w25.heap.size := hB25.size
                clear hb25
                go_wp2_with fail
                refine (error_any 9 9 _ (hE.below (B := w.heap.size) (by go_grown) hE.pos)).mono ?_
                rintro e w26 ⟨rfl, hb26⟩
                have hB26 : Below w.heap.size w w26 := by
                  refine Below.trans ?_ (Below.mono hb26 ?_)
                  · go_grown
                  · first | omega | (simp; done) | (simp; omega)
                have o26_r : ObjAt w26 (w2.heap.size) 24 [.int .i64 (j + 1), .int .i64 k2, .int .i64 k] := ObjAt.below (H25_r.out) hb26
                have o26_t : ObjAt w26 (w3.heap.size) 30 [.int .i64 x0, .int .i64 x1, .int .i64 x2, .int .i64 x3] := ObjAt.below (H25_t.out) hb26
                have o26_u : ObjAt w26 (w4.heap.size) 34 [.int .i64 y0, .int .i64 y1, .int .i64 y2, .int .i64 y3] := ObjAt.below (H25_u.out) hb26
                clear q25_r_0 f25_r_0 q25_r_1 f25_r_1 q25_r_2 f25_r_2 H25_r q25_t_0 q25_t_1 q25_t_2 q25_t_3 H25_t q25_u_0 q25_u_1 q25_u_2 q25_u_3 H25_u
                have q26_r_0 := o26_r.cell (i := 0) rfl
                have f26_r_0 := o26_r.free 0
                have q26_r_1 := o26_r.cell (i := 1) rfl
                have f26_r_1 := o26_r.free 1
                have q26_r_2 := o26_r.cell (i := 2) rfl
                have f26_r_2 := o26_r.free 2
                have l26_r := o26_r.lt
                have H26_r := hide o26_r
                clear o26_r
                have q26_t_0 := o26_t.cell (i := 0) rfl
                have q26_t_1 := o26_t.cell (i := 1) rfl
                have q26_t_2 := o26_t.cell (i := 2) rfl
                have q26_t_3 := o26_t.cell (i := 3) rfl
                have l26_t := o26_t.lt
                have H26_t := hide o26_t
                clear o26_t
                have q26_u_0 := o26_u.cell (i := 0) rfl
                have q26_u_1 := o26_u.cell (i := 1) rfl
                have q26_u_2 := o26_u.cell (i := 2) rfl
                have q26_u_3 := o26_u.cell (i := 3) rfl
                have l26_u := o26_u.lt
                have H26_u := hide o26_u
                clear o26_u
                have hy26 : w.heap.size ≤ w26.heap.size := hB26.size
                clear hb26
                go_wp2_with fail
                refine (CO.out _).mono ?_
                rintro e w27 ⟨rfl, hb27⟩
                have hB27 : Below w.heap.size w w27 := by
                  refine Below.trans ?_ (Below.mono hb27 ?_)
                  · go_grown
                  · first | omega | (simp; done) | (simp; omega)
                have o27_r : ObjAt w27 (w2.heap.size) 24 [.int .i64 (j + 1), .int .i64 k2, .int .i64 k] := ObjAt.below (ObjAt.alloc (H26_r.out) _) hb27
                have o27_t : ObjAt w27 (w3.heap.size) 30 [.int .i64 x0, .int .i64 x1, .int .i64 x2, .int .i64 x3] := ObjAt.below (ObjAt.alloc (H26_t.out) _) hb27
                have o27_u : ObjAt w27 (w4.heap.size) 34 [.int .i64 y0, .int .i64 y1, .int .i64 y2, .int .i64 y3] := ObjAt.below (ObjAt.alloc (H26_u.out) _) hb27
                have o27_none : ObjAt w27 (w26.heap.size) 34 [.int .i64 0, .int .i64 0, .int .i64 0, .int .i64 0] := ObjAt.below (objNew (by simp)) hb27
                clear q26_r_0 f26_r_0 q26_r_1 f26_r_1 q26_r_2 f26_r_2 H26_r q26_t_0 q26_t_1 q26_t_2 q26_t_3 H26_t q26_u_0 q26_u_1 q26_u_2 q26_u_3 H26_u
                have q27_r_0 := o27_r.cell (i := 0) rfl
                have f27_r_0 := o27_r.free 0
                have q27_r_1 := o27_r.cell (i := 1) rfl
                have f27_r_1 := o27_r.free 1
                have q27_r_2 := o27_r.cell (i := 2) rfl
                have f27_r_2 := o27_r.free 2
                have l27_r := o27_r.lt
                have H27_r := hide o27_r
                clear o27_r
                have q27_t_0 := o27_t.cell (i := 0) rfl
                have q27_t_1 := o27_t.cell (i := 1) rfl
                have q27_t_2 := o27_t.cell (i := 2) rfl
                have q27_t_3 := o27_t.cell (i := 3) rfl
                have l27_t := o27_t.lt
                have H27_t := hide o27_t
                clear o27_t
                have q27_u_0 := o27_u.cell (i := 0) rfl
                have q27_u_1 := o27_u.cell (i := 1) rfl
                have q27_u_2 := o27_u.cell (i := 2) rfl
                have q27_u_3 := o27_u.cell (i := 3) rfl
                have l27_u := o27_u.lt
                have H27_u := hide o27_u
                clear o27_u
                have q27_none_0 := o27_none.cell (i := 0) rfl
                have q27_none_1 := o27_none.cell (i := 1) rfl
                have q27_none_2 := o27_none.cell (i := 2) rfl
                have q27_none_3 := o27_none.cell (i := 3) rfl
                have l27_none := o27_none.lt
                have H27_none := hide o27_none
                clear o27_none
                have hy27 : w.heap.size ≤ w27.heap.size := hB27.size
                clear hb27
                go_wp2
                go_roundw
                case rel => exact ⟨j + 1, k2, k, by go_num, by omega, by simpa using HNX, fun h => by omega, H27_r.out, H27_t.out, H27_u.out, by go_grown⟩
                case measure => simp [intOf] <;> omega
              ·
                have t2 : (c2 == 0) = false := beq_eq_false_iff_ne.2 hc2
                clear hc2
                go_wp2
                go_roundw
                case rel => exact ⟨j + 1, k2, k, by go_num, by omega, by simpa using HNX, fun h => by omega, H24_r.out, H24_t.out, H24_u.out, by go_grown⟩
                case measure => simp [intOf] <;> omega
            ·
              have t1 : (c1 == 0) = false := beq_eq_false_iff_ne.2 hc1
              clear hc1
              by_cases hc2 : c2 = 0
              ·
                subst hc2
                obtain ⟨_, ha, ht, e0, e1, e2, e3⟩ := HY.out rfl
                have hte : tickE (j + 1) k2 k y0 y1 y2 y3 tm = 9 := by rw [e0, e1, e2]; exact tickE_late (key := v) (x := 0) HNX.out (by decide) (by have := ringOfN_gone 0 k2 k (j + 1) (by omega); rwa [Int.zero_add] at this) ha ht e3 ht
                have CB : Hid (∀ W, Calls Tryd.prog 17 #[.agg #[.int .i64 (j + 1), .int .i64 k2, .int .i64 k], .agg #[.int .i64 y0, .int .i64 y1, .int .i64 y2, .int .i64 y3], .int .i64 tm] W fun r w' => r = .returned (.iface 82 (.int .i64 9)) ∧ Below W.heap.size W w') := ticketCheck_eq (c := 9) hte
                have hold : oldN (j + 1) k2 k y0 y1 y2 y3 tm = (false, 0) := by unfold oldN; rw [if_neg (by simp [HNX.out]), if_neg (by simp [ht])]; simp [oldB, hte]
                have CO : Hid (∀ W, Calls Tryd.prog 18 #[.agg #[.int .i64 (j + 1), .int .i64 k2, .int .i64 k], .agg #[.int .i64 y0, .int .i64 y1, .int .i64 y2, .int .i64 y3], .int .i64 tm] W fun r w' => r = .returned (.tuple #[.bool false, .nilIface]) ∧ Below W.heap.size W w') := judgeOld_eq (c := 0) hold
                clear ha ht e0 e1 e2 e3 hte hold
                go_wp2_with fail
                refine (CB.out _).mono ?_
                rintro e w23 ⟨rfl, hb23⟩
                have hB23 : Below w.heap.size w w23 := by
                  refine Below.trans ?_ (Below.mono hb23 ?_)
                  · go_grown
                  · first | omega | (simp; done) | (simp; omega)
                have o23_r : ObjAt w23 (w2.heap.size) 24 [.int .i64 (j + 1), .int .i64 k2, .int .i64 k] := ObjAt.below (H22_r.out) hb23
                have o23_t : ObjAt w23 (w3.heap.size) 30 [.int .i64 x0, .int .i64 x1, .int .i64 x2, .int .i64 x3] := ObjAt.below (H22_t.out) hb23
                have o23_u : ObjAt w23 (w4.heap.size) 34 [.int .i64 y0, .int .i64 y1, .int .i64 y2, .int .i64 y3] := ObjAt.below (H22_u.out) hb23
                clear q22_r_0 f22_r_0 q22_r_1 f22_r_1 q22_r_2 f22_r_2 H22_r q22_t_0 q22_t_1 q22_t_2 q22_t_3 H22_t q22_u_0 q22_u_1 q22_u_2 q22_u_3 H22_u q22_x_0 q22_x_1 q22_x_2 H22_x
                have q23_r_0 := o23_r.cell (i := 0) rfl
                have f23_r_0 := o23_r.free 0
                have q23_r_1 := o23_r.cell (i := 1) rfl
                have f23_r_1 := o23_r.free 1
                have q23_r_2 := o23_r.cell (i := 2) rfl
                have f23_r_2 := o23_r.free 2
                have l23_r := o23_r.lt
                have H23_r := hide o23_r
                clear o23_r
                have q23_t_0 := o23_t.cell (i := 0) rfl
                have q23_t_1 := o23_t.cell (i := 1) rfl
                have q23_t_2 := o23_t.cell (i := 2) rfl
                have q23_t_3 := o23_t.cell (i := 3) rfl
                have l23_t := o23_t.lt
                have H23_t := hide o23_t
                clear o23_t
                have q23_u_0 := o23_u.cell (i := 0) rfl
                have q23_u_1 := o23_u.cell (i := 1) rfl
                have q23_u_2 := o23_u.cell (i := 2) rfl
                have q23_u_3 := o23_u.cell (i := 3) rfl
                have l23_u := o23_u.lt
                have H23_u := hide o23_u
                clear o23_u
                have hy23 : w.heap.size ≤ w23.heap.size := hB23.size
                clear hb23
                go_wp2_with fail
                refine (error_any 9 9 _ (hE.below (B := w.heap.size) (by go_grown) hE.pos)).mono ?_
                rintro e w24 ⟨rfl, hb24⟩
                have hB24 : Below w.heap.size w w24 := by
                  refine Below.trans ?_ (Below.mono hb24 ?_)
                  · go_grown
                  · first | omega | (simp; done) | (simp; omega)
                have o24_r : ObjAt w24 (w2.heap.size) 24 [.int .i64 (j + 1), .int .i64 k2, .int .i64 k] := ObjAt.below (H23_r.out) hb24
                have o24_t : ObjAt w24 (w3.heap.size) 30 [.int .i64 x0, .int .i64 x1, .int .i64 x2, .int .i64 x3] := ObjAt.below (H23_t.out) hb24
                have o24_u : ObjAt w24 (w4.heap.size) 34 [.int .i64 y0, .int .i64 y1, .int .i64 y2, .int .i64 y3] := ObjAt.below (H23_u.out) hb24
                clear q23_r_0 f23_r_0 q23_r_1 f23_r_1 q23_r_2 f23_r_2 H23_r q23_t_0 q23_t_1 q23_t_2 q23_t_3 H23_t q23_u_0 q23_u_1 q23_u_2 q23_u_3 H23_u
                have q24_r_0 := o24_r.cell (i := 0) rfl
                have f24_r_0 := o24_r.free 0
                have q24_r_1 := o24_r.cell (i := 1) rfl
                have f24_r_1 := o24_r.free 1
                have q24_r_2 := o24_r.cell (i := 2) rfl
                have f24_r_2 := o24_r.free 2
                have l24_r := o24_r.lt
                have H24_r := hide o24_r
                clear o24_r
                have q24_t_0 := o24_t.cell (i := 0) rfl
                have q24_t_1 := o24_t.cell (i := 1) rfl
                have q24_t_2 := o24_t.cell (i := 2) rfl
                have q24_t_3 := o24_t.cell (i := 3) rfl
                have l24_t := o24_t.lt
                have H24_t := hide o24_t
                clear o24_t
                have q24_u_0 := o24_u.cell (i := 0) rfl
                have q24_u_1 := o24_u.cell (i := 1) rfl
                have q24_u_2 := o24_u.cell (i := 2) rfl
                have q24_u_3 := o24_u.cell (i := 3) rfl
                have l24_u := o24_u.lt
                have H24_u := hide o24_u
                clear o24_u
                have hy24 : w.heap.size ≤ w24.heap.size := hB24.size
                clear hb24
                go_wp2_with fail
                refine (CO.out _).mono ?_
                rintro e w25 ⟨rfl, hb25⟩
                have hB25 : Below w.heap.size w w25 := by
                  refine Below.trans ?_ (Below.mono hb25 ?_)
                  · go_grown
                  · first | omega | (simp; done) | (simp; omega)
                have o25_r : ObjAt w25 (w2.heap.size) 24 [.int .i64 (j + 1), .int .i64 k2, .int .i64 k] := ObjAt.below (ObjAt.alloc (H24_r.out) _) hb25
                have o25_t : ObjAt w25 (w3.heap.size) 30 [.int .i64 x0, .int .i64 x1, .int .i64 x2, .int .i64 x3] := ObjAt.below (ObjAt.alloc (H24_t.out) _) hb25
                have o25_u : ObjAt w25 (w4.heap.size) 34 [.int .i64 y0, .int .i64 y1, .int .i64 y2, .int .i64 y3] := ObjAt.below (ObjAt.alloc (H24_u.out) _) hb25
                have o25_none : ObjAt w25 (w24.heap.size) 34 [.int .i64 0, .int .i64 0, .int .i64 0, .int .i64 0] := ObjAt.below (objNew (by simp)) hb25
                clear q24_r_0 f24_r_0 q24_r_1 f24_r_1 q24_r_2 f24_r_2 H24_r q24_t_0 q24_t_1 q24_t_2 q24_t_3 H24_t q24_u_0 q24_u_1 q24_u_2 q24_u_3 H24_u
                have q25_r_0 := o25_r.cell (i := 0) rfl
                have f25_r_0 := o25_r.free 0
                have q25_r_1 := o25_r.cell (i := 1) rfl
                have f25_r_1 := o25_r.free 1
                have q25_r_2 := o25_r.cell (i := 2) rfl
                have f25_r_2 := o25_r.free 2
                have l25_r := o25_r.lt
                have H25_r := hide o25_r
                clear o25_r
                have q25_t_0 := o25_t.cell (i := 0) rfl
                have q25_t_1 := o25_t.cell (i := 1) rfl
                have q25_t_2 := o25_t.cell (i := 2) rfl
                have q25_t_3 := o25_t.cell (i := 3) rfl
                have l25_t := o25_t.lt
                have H25_t := hide o25_t
                clear o25_t
                have q25_u_0 := o25_u.cell (i := 0) rfl
                have q25_u_1 := o25_u.cell (i := 1) rfl
                have q25_u_2 := o25_u.cell (i := 2) rfl
                have q25_u_3 := o25_u.cell (i := 3) rfl
                have l25_u := o25_u.lt
                have H25_u := hide o25_u
                clear o25_u
                have q25_none_0 := o25_none.cell (i := 0) rfl
                have q25_none_1 := o25_none.cell (i := 1) rfl
                have q25_none_2 := o25_none.cell (i := 2) rfl
                have q25_none_3 := o25_none.cell (i := 3) rfl
                have l25_none := o25_none.lt
                have H25_none := hide o25_none
                clear o25_none
                have hy25 : w.heap.size ≤ w25.heap.size := hB25.size
                clear hb25
                go_wp2
                go_roundw
                case rel => exact ⟨j + 1, k2, k, by go_num, by omega, by simpa using HNX, fun h => by omega, H25_r.out, H25_t.out, H25_u.out, by go_grown⟩
                case measure => simp [intOf] <;> omega
              ·
                have t2 : (c2 == 0) = false := beq_eq_false_iff_ne.2 hc2
                clear hc2
                go_wp2
                go_roundw
                case rel => exact ⟨j + 1, k2, k, by go_num, by omega, by simpa using HNX, fun h => by omega, H22_r.out, H22_t.out, H22_u.out, by go_grown⟩
                case measure => simp [intOf] <;> omega
        · have h2' : 8 ≤ (j : Int) := by omega
          go_wp2
          go_ret
          exact ⟨rfl, by go_grown⟩
      · have h1' : turns ≤ (j : Int) := by omega
        go_wp2
        go_ret
        exact ⟨rfl, by go_grown⟩
end Go.Proofs.YtmbklchoplgdlaaDoor
