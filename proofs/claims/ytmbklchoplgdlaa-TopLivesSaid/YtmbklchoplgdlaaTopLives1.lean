/- TopLives, of a bucket that is right. -/
import Derived.Test.YtmbklchoplgdlaaTopLivesP
namespace Go.Proofs.Ytmbklchoplgdlaa
open Go.RowKit
set_option maxRecDepth 100000 in
set_option maxHeartbeats 16000000 in
theorem walkTopLives1 (w : World) (key : Int) (a : Option Addr) (len cap : Nat) (zs : List Int) (_h1 : len ≤ cap) (_h2 : cap ≤ maxLen) (hr0 : IntRow w a len zs) (s r h t : Int) (hbk : buckB s r h t = true) :
    Calls Try.prog 3 #[.int .i64 key, .slice a len cap, .agg #[.int .i64 s, .int .i64 r, .int .i64 h, .int .i64 t]] w fun e w' => e = .returned (.bool true) ∧ Below w.heap.size w w' := by
  have HR := hide hr0.split
  unfold maxLen at _h2
  clear hr0
  have ON := hide (fun W => topOne W)
  obtain ⟨i0, hi0, hz0, hz1, hz2⟩ := info_parts Try.infoInt
  have Hi0 := hide hi0
  have Hz0 := hide hz0
  have Hz1 := hide hz1
  have Hz2 := hide hz2
  have HBK := hide hbk
  clear hi0 hz0 hz1 hz2 hbk
  obtain ⟨⟨s1, s2, r1, r2, b1, b2⟩, q1, q2⟩ := buckB_ok HBK.out
  go_enter Try.func3, Try.ntmps3
  go_wp2_with fail
  refine (ON.out _).mono ?_
  rintro e w1 ⟨rfl, hb1⟩
  have hB1 : Below w.heap.size w w1 := by
    refine Below.trans ?_ (Below.mono hb1 ?_)
    · go_grown
    · first | omega | (simp; done) | (simp; omega)
  have o1_b : ObjAt w1 (w.heap.size) 24 [.int .i64 s, .int .i64 r, .int .i64 h, .int .i64 t] := ObjAt.below (objNew (by simp)) hb1
  have q1_b_0 := o1_b.cell (i := 0) rfl
  have f1_b_0 := o1_b.free 0
  have q1_b_1 := o1_b.cell (i := 1) rfl
  have f1_b_1 := o1_b.free 1
  have q1_b_2 := o1_b.cell (i := 2) rfl
  have f1_b_2 := o1_b.free 2
  have q1_b_3 := o1_b.cell (i := 3) rfl
  have f1_b_3 := o1_b.free 3
  have l1_b := o1_b.lt
  have H1_b := hide o1_b
  clear o1_b
  have hy1 : w.heap.size ≤ w1.heap.size := hB1.size
  clear hb1
  go_wp2_with fail
  refine (lifeNew _).mono ?_
  rintro e w500 ⟨rfl, rfl⟩
  go_wp2_with fail
  go_loopw [9, 10, 12] (fun tv tk i wr => ∃ (j : Nat) (n m took : Int) (ts : List Int), i = .int .i64 j ∧ j ≤ len ∧ j ≤ 40 ∧ tk = .int .i64 took ∧ 0 ≤ took ∧ took ≤ h ∧ took ≤ j ∧ 0 ≤ n ∧ n ≤ 100 ∧ 0 ≤ m ∧ m ≤ 30 ∧ Hid (tlJ key n m ts) ∧ ts.length ≤ j ∧ wr.ownsRow (w1.heap.size + 1) 3 1 tv ts.length (ts.map (Value.int .i64)) ∧ ObjAt wr w.heap.size 24 [.int .i64 s, .int .i64 r, .int .i64 (h - took), .int .i64 t] ∧ ObjAt wr w1.heap.size 82 [.int .i64 n, .int .i64 m] ∧ w1.heap.size + 1 ≤ wr.heap.size ∧ Below w.heap.size w wr) (fun _ _ i _ => 100 - (intOf i).toNat)
  case atStart => exact ⟨0, 0, 0, 0, [], rfl, by omega, by omega, rfl, by omega, by omega, by omega, by omega, by omega, by omega, by omega, hide (fun x hx => by cases hx), by simp, World.ownsRow_nil _ _ _ _, by simpa using (ObjAt.alloc (H1_b.out) _), objNew (by simp), by simp, by go_grown⟩
  case round =>
    obtain ⟨j, n, m, took, ts, rfl, hj, hj2, rfl, tk0, tk1, tk2, hn0, hn1, hm0, hm1, hJ, htl, hown, ho_b, ho_l, hsz, hb⟩ := hrel
    obtain ⟨av, cv, rfl, hnc, hcm, hrow⟩ := own_slice hown
    unfold maxLen at hcm
    have Hown := hide hown
    have Hrow := hide hrow
    have hyr : w.heap.size ≤ wr.heap.size := hb.size
    have lw1 : w.heap.size < w1.heap.size := l1_b
    clear ON hown hrow q1_b_0 f1_b_0 q1_b_1 f1_b_1 q1_b_2 f1_b_2 q1_b_3 f1_b_3 H1_b
    obtain ⟨hc, hhc⟩ : ∃ hc, hc = h - took := ⟨_, rfl⟩
    rw [← hhc] at ho_b
    have hc0 : 0 ≤ hc := by omega
    have hc1 : hc ≤ s := by omega
    have HHC := hide hhc
    clear hhc
    have p_b_0 := ho_b.cell (i := 0) rfl
    have p_b_1 := ho_b.cell (i := 1) rfl
    have p_b_2 := ho_b.cell (i := 2) rfl
    have p_b_3 := ho_b.cell (i := 3) rfl
    have g_b_0 := ho_b.free 0
    have g_b_1 := ho_b.free 1
    have g_b_2 := ho_b.free 2
    have g_b_3 := ho_b.free 3
    have l_b := ho_b.lt
    have p_l_0 := ho_l.cell (i := 0) rfl
    have p_l_1 := ho_l.cell (i := 1) rfl
    have l_l := ho_l.lt
    have O_b := hide ho_b
    have O_l := hide ho_l
    clear ho_b ho_l
    by_cases h1 : j < len
    · by_cases h2 : j < 40
      · obtain ⟨ab, ao, rfl, hlt1, _, _, hc1'⟩ := HR.out.resolve_left (by omega)
        have cz := (hb.cell (p := ⟨ab, ao + j, none⟩) hlt1).trans (hc1' j h1)
        obtain ⟨z, hz⟩ : ∃ z, z = zs.getD j 0 := ⟨_, rfl⟩
        rw [← hz] at cz
        clear hz hc1'
        by_cases hz0 : z = 0
        · have tz : (z == 0) = true := by simp [hz0]
          subst hz0
          clear tz
          by_cases hn100 : n = 100
          ·
            subst hn100
            go_wp2_with fail
            refine (lifeS_eq (v := 0) (c := 4) (n' := 100) (m' := m) (by simp [lifeS]) _ _ (O_l.out) (by omega) (by omega)).mono ?_
            rintro e w21 ⟨rfl, hL21, hk21⟩
            have hB21 : Below w.heap.size w w21 := by
              refine Below.trans ?_ (Kept.below hk21 ?_ ?_)
              · go_grown
              · first | omega | (simp; done) | (simp; omega)
              · intro x hx; simp at hx; omega
            have o21_b : ObjAt w21 (w.heap.size) 24 [.int .i64 s, .int .i64 r, .int .i64 hc, .int .i64 t] := Kept.obj hk21 (O_b.out) (by simp; omega)
            have o21_l : ObjAt w21 (w1.heap.size) 82 [.int .i64 100, .int .i64 m] := hL21
            clear p_b_0 p_b_1 p_b_2 p_b_3 g_b_0 g_b_1 g_b_2 g_b_3 p_l_0 p_l_1 O_b O_l
            have q21_b_0 := o21_b.cell (i := 0) rfl
            have f21_b_0 := o21_b.free 0
            have q21_b_1 := o21_b.cell (i := 1) rfl
            have f21_b_1 := o21_b.free 1
            have q21_b_2 := o21_b.cell (i := 2) rfl
            have f21_b_2 := o21_b.free 2
            have q21_b_3 := o21_b.cell (i := 3) rfl
            have f21_b_3 := o21_b.free 3
            have l21_b := o21_b.lt
            have H21_b := hide o21_b
            clear o21_b
            have q21_l_0 := o21_l.cell (i := 0) rfl
            have q21_l_1 := o21_l.cell (i := 1) rfl
            have l21_l := o21_l.lt
            have H21_l := hide o21_l
            clear o21_l
            have hy21 : w.heap.size ≤ w21.heap.size := hB21.size
            have hK21 := hk21
            clear hk21
            have own2 : w21.ownsRow (w1.heap.size + 1) 3 1 (.slice av ts.length cv) ts.length (ts.map (Value.int .i64)) := own_kept Hown.out hK21 (fun q hq => by simp at hq; omega)
            have hs2 : w1.heap.size + 1 ≤ w21.heap.size := Nat.le_trans hsz hK21.size
            have OWN2 := hide own2
            clear own2 hK21
            go_wp2
            go_roundw
            case rel => exact ⟨j + 1, 100, m, took, ts, by go_num, by omega, by omega, by go_num, by omega, by omega, by omega, by omega, by omega, by omega, by omega, hJ, by omega, OWN2.out, (by rw [← HHC.out]; exact H21_b.out), H21_l.out, by omega, by go_grown⟩
            case measure => simp [intOf] <;> omega
          ·
            go_wp2_with fail
            refine (lifeS_eq (v := n + 1) (c := 0) (n' := n + 1) (m' := 0) (by simp [lifeS, hn100]) _ _ (O_l.out) (by omega) (by omega)).mono ?_
            rintro e w21 ⟨rfl, hL21, hk21⟩
            have hB21 : Below w.heap.size w w21 := by
              refine Below.trans ?_ (Kept.below hk21 ?_ ?_)
              · go_grown
              · first | omega | (simp; done) | (simp; omega)
              · intro x hx; simp at hx; omega
            have o21_b : ObjAt w21 (w.heap.size) 24 [.int .i64 s, .int .i64 r, .int .i64 hc, .int .i64 t] := Kept.obj hk21 (O_b.out) (by simp; omega)
            have o21_l : ObjAt w21 (w1.heap.size) 82 [.int .i64 (n + 1), .int .i64 0] := hL21
            clear p_b_0 p_b_1 p_b_2 p_b_3 g_b_0 g_b_1 g_b_2 g_b_3 p_l_0 p_l_1 O_b O_l
            have q21_b_0 := o21_b.cell (i := 0) rfl
            have f21_b_0 := o21_b.free 0
            have q21_b_1 := o21_b.cell (i := 1) rfl
            have f21_b_1 := o21_b.free 1
            have q21_b_2 := o21_b.cell (i := 2) rfl
            have f21_b_2 := o21_b.free 2
            have q21_b_3 := o21_b.cell (i := 3) rfl
            have f21_b_3 := o21_b.free 3
            have l21_b := o21_b.lt
            have H21_b := hide o21_b
            clear o21_b
            have q21_l_0 := o21_l.cell (i := 0) rfl
            have q21_l_1 := o21_l.cell (i := 1) rfl
            have l21_l := o21_l.lt
            have H21_l := hide o21_l
            clear o21_l
            have hy21 : w.heap.size ≤ w21.heap.size := hB21.size
            have hK21 := hk21
            clear hk21
            have own2 : w21.ownsRow (w1.heap.size + 1) 3 1 (.slice av ts.length cv) ts.length (ts.map (Value.int .i64)) := own_kept Hown.out hK21 (fun q hq => by simp at hq; omega)
            have hs2 : w1.heap.size + 1 ≤ w21.heap.size := Nat.le_trans hsz hK21.size
            have OWN2 := hide own2
            clear own2 hK21
            go_wp2
            go_roundw
            case rel => exact ⟨j + 1, n + 1, 0, took, ts, by go_num, by omega, by omega, by go_num, by omega, by omega, by omega, by omega, by omega, by omega, by omega, hide (tl_up hJ.out hm1 (by omega)), by omega, OWN2.out, (by rw [← HHC.out]; exact H21_b.out), H21_l.out, by omega, by go_grown⟩
            case measure => simp [intOf] <;> omega
        · have tz : (z == 0) = false := beq_eq_false_iff_ne.2 hz0
          clear hz0
          by_cases hn : n = 0
          ·
            subst hn
            go_wp2_with fail
            refine (lifeN_eq (v1 := 0) (v2 := 0) (c := 6) (m' := m) (by simp [lifeN]) _ _ (O_l.out) (by omega) (by omega) (by omega) (by omega)).mono ?_
            rintro e w21 ⟨rfl, hL21, hk21⟩
            have hB21 : Below w.heap.size w w21 := by
              refine Below.trans ?_ (Kept.below hk21 ?_ ?_)
              · go_grown
              · first | omega | (simp; done) | (simp; omega)
              · intro x hx; simp at hx; omega
            have o21_b : ObjAt w21 (w.heap.size) 24 [.int .i64 s, .int .i64 r, .int .i64 hc, .int .i64 t] := Kept.obj hk21 (O_b.out) (by simp; omega)
            have o21_l : ObjAt w21 (w1.heap.size) 82 [.int .i64 0, .int .i64 m] := hL21
            clear p_b_0 p_b_1 p_b_2 p_b_3 g_b_0 g_b_1 g_b_2 g_b_3 p_l_0 p_l_1 O_b O_l
            have q21_b_0 := o21_b.cell (i := 0) rfl
            have f21_b_0 := o21_b.free 0
            have q21_b_1 := o21_b.cell (i := 1) rfl
            have f21_b_1 := o21_b.free 1
            have q21_b_2 := o21_b.cell (i := 2) rfl
            have f21_b_2 := o21_b.free 2
            have q21_b_3 := o21_b.cell (i := 3) rfl
            have f21_b_3 := o21_b.free 3
            have l21_b := o21_b.lt
            have H21_b := hide o21_b
            clear o21_b
            have q21_l_0 := o21_l.cell (i := 0) rfl
            have q21_l_1 := o21_l.cell (i := 1) rfl
            have l21_l := o21_l.lt
            have H21_l := hide o21_l
            clear o21_l
            have hy21 : w.heap.size ≤ w21.heap.size := hB21.size
            have hK21 := hk21
            clear hk21
            have own2 : w21.ownsRow (w1.heap.size + 1) 3 1 (.slice av ts.length cv) ts.length (ts.map (Value.int .i64)) := own_kept Hown.out hK21 (fun q hq => by simp at hq; omega)
            have hs2 : w1.heap.size + 1 ≤ w21.heap.size := Nat.le_trans hsz hK21.size
            have OWN2 := hide own2
            clear own2 hK21
            go_wp2
            go_roundw
            case rel => exact ⟨j + 1, 0, m, took, ts, by go_num, by omega, by omega, by go_num, by omega, by omega, by omega, by omega, by omega, by omega, by omega, hJ, by omega, OWN2.out, (by rw [← HHC.out]; exact H21_b.out), H21_l.out, by omega, by go_grown⟩
            case measure => simp [intOf] <;> omega
          ·
            by_cases hm : m = 30
            ·
              subst hm
              go_wp2_with fail
              refine (lifeN_eq (v1 := 0) (v2 := 0) (c := 4) (m' := 30) (by simp [lifeN, hn]) _ _ (O_l.out) (by omega) (by omega) (by omega) (by omega)).mono ?_
              rintro e w21 ⟨rfl, hL21, hk21⟩
              have hB21 : Below w.heap.size w w21 := by
                refine Below.trans ?_ (Kept.below hk21 ?_ ?_)
                · go_grown
                · first | omega | (simp; done) | (simp; omega)
                · intro x hx; simp at hx; omega
              have o21_b : ObjAt w21 (w.heap.size) 24 [.int .i64 s, .int .i64 r, .int .i64 hc, .int .i64 t] := Kept.obj hk21 (O_b.out) (by simp; omega)
              have o21_l : ObjAt w21 (w1.heap.size) 82 [.int .i64 n, .int .i64 30] := hL21
              clear p_b_0 p_b_1 p_b_2 p_b_3 g_b_0 g_b_1 g_b_2 g_b_3 p_l_0 p_l_1 O_b O_l
              have q21_b_0 := o21_b.cell (i := 0) rfl
              have f21_b_0 := o21_b.free 0
              have q21_b_1 := o21_b.cell (i := 1) rfl
              have f21_b_1 := o21_b.free 1
              have q21_b_2 := o21_b.cell (i := 2) rfl
              have f21_b_2 := o21_b.free 2
              have q21_b_3 := o21_b.cell (i := 3) rfl
              have f21_b_3 := o21_b.free 3
              have l21_b := o21_b.lt
              have H21_b := hide o21_b
              clear o21_b
              have q21_l_0 := o21_l.cell (i := 0) rfl
              have q21_l_1 := o21_l.cell (i := 1) rfl
              have l21_l := o21_l.lt
              have H21_l := hide o21_l
              clear o21_l
              have hy21 : w.heap.size ≤ w21.heap.size := hB21.size
              have hK21 := hk21
              clear hk21
              have own2 : w21.ownsRow (w1.heap.size + 1) 3 1 (.slice av ts.length cv) ts.length (ts.map (Value.int .i64)) := own_kept Hown.out hK21 (fun q hq => by simp at hq; omega)
              have hs2 : w1.heap.size + 1 ≤ w21.heap.size := Nat.le_trans hsz hK21.size
              have OWN2 := hide own2
              clear own2 hK21
              go_wp2
              go_roundw
              case rel => exact ⟨j + 1, n, 30, took, ts, by go_num, by omega, by omega, by go_num, by omega, by omega, by omega, by omega, by omega, by omega, by omega, hJ, by omega, OWN2.out, (by rw [← HHC.out]; exact H21_b.out), H21_l.out, by omega, by go_grown⟩
              case measure => simp [intOf] <;> omega
            ·
              have hm29 : m < 30 := by omega
              go_wp2_with fail
              refine (lifeN_eq (v1 := n) (v2 := m) (c := 0) (m' := m + 1) (by simp [lifeN, hn, hm]) _ _ (O_l.out) (by omega) (by omega) (by omega) (by omega)).mono ?_
              rintro e w21 ⟨rfl, hL21, hk21⟩
              have hB21 : Below w.heap.size w w21 := by
                refine Below.trans ?_ (Kept.below hk21 ?_ ?_)
                · go_grown
                · first | omega | (simp; done) | (simp; omega)
                · intro x hx; simp at hx; omega
              have o21_b : ObjAt w21 (w.heap.size) 24 [.int .i64 s, .int .i64 r, .int .i64 hc, .int .i64 t] := Kept.obj hk21 (O_b.out) (by simp; omega)
              have o21_l : ObjAt w21 (w1.heap.size) 82 [.int .i64 n, .int .i64 (m + 1)] := hL21
              clear p_b_0 p_b_1 p_b_2 p_b_3 g_b_0 g_b_1 g_b_2 g_b_3 p_l_0 p_l_1 O_b O_l
              have q21_b_0 := o21_b.cell (i := 0) rfl
              have f21_b_0 := o21_b.free 0
              have q21_b_1 := o21_b.cell (i := 1) rfl
              have f21_b_1 := o21_b.free 1
              have q21_b_2 := o21_b.cell (i := 2) rfl
              have f21_b_2 := o21_b.free 2
              have q21_b_3 := o21_b.cell (i := 3) rfl
              have f21_b_3 := o21_b.free 3
              have l21_b := o21_b.lt
              have H21_b := hide o21_b
              clear o21_b
              have q21_l_0 := o21_l.cell (i := 0) rfl
              have q21_l_1 := o21_l.cell (i := 1) rfl
              have l21_l := o21_l.lt
              have H21_l := hide o21_l
              clear o21_l
              have hy21 : w.heap.size ≤ w21.heap.size := hB21.size
              have hK21 := hk21
              clear hk21
              have own2 : w21.ownsRow (w1.heap.size + 1) 3 1 (.slice av ts.length cv) ts.length (ts.map (Value.int .i64)) := own_kept Hown.out hK21 (fun q hq => by simp at hq; omega)
              have hs2 : w1.heap.size + 1 ≤ w21.heap.size := Nat.le_trans hsz hK21.size
              have OWN2 := hide own2
              clear own2 hK21
              have Hrow2 : Hid (ts.length = 0 ∨ ∃ q, av = some ⟨q, 0, none⟩ ∧ q < w21.heap.size ∧ ∀ i, i < ts.length → w21.cell? ⟨q, i, none⟩ = some (.int .i64 (ts.getD i 0))) := by
                obtain ⟨av', cv', hav, _, _, hrow⟩ := own_slice OWN2.out
                injection hav with e1 _ _
                subst e1
                exact hrow.imp id (fun ⟨q, h1, _, h3, h4⟩ => ⟨q, h1, h3, h4⟩)
              clear Hrow Hown hn hm
              have hv0 : 0 ≤ n * 30 + m ∧ n * 30 + m ≤ 3030 := by omega
              cases hkey : inB key
              ·
                have MK := hide (tl_one key (n * 30 + m) 0 1 (by simp [mkV, mkE, hkey]) (by simp [mkE, hkey]) (WalkArith.wf_i64 (by omega)))
                have hk := inB_false.1 hkey
                clear hkey
                go_wp2_with fail
                refine (MK.out _ _ (objNew (by simp))).mono ?_
                rintro e w501 ⟨rfl, rfl⟩
                rcases hk with hk | hk
                ·
                  go_wp2
                  go_ret
                  first | exact ⟨rfl, by go_grown⟩ | exact ⟨retB (a := decide (key < 0) || decide (999982 < key)) (by simp; omega), by go_grown⟩
                ·
                  have hk' : 0 ≤ key := by omega
                  have hk2 : 999982 < key := by omega
                  go_wp2
                  go_ret
                  first | exact ⟨rfl, by go_grown⟩ | exact ⟨retB (a := decide (key < 0) || decide (999982 < key)) (by simp; omega), by go_grown⟩
              ·
                have hk := inB_true.1 hkey
                have hnew := tl_new hJ.out hk hn0 hn1 hm0 hm29
                have hJ2 := hide (tl_snoc hJ.out hn0 hm0)
                have MK0 := tl_one key (n * 30 + m) (tagOf key [n * 30 + m]) 0 (by simp [mkV, mkE, hkey, inB_true.2 (show 0 ≤ n * 30 + m ∧ n * 30 + m < 999983 by omega)]) (by simp [mkE, hkey, inB_true.2 (show 0 ≤ n * 30 + m ∧ n * 30 + m < 999983 by omega)]) (WalkArith.wf_i64 (by omega))
                obtain ⟨tg, htg⟩ : ∃ q, q = tagOf key [n * 30 + m] := ⟨_, rfl⟩
                rw [← htg] at hnew MK0 hJ2
                have MK : Hid (∀ (W : World) (b : Nat), ObjAt W b 3 [.int .i64 (n * 30 + m)] → Calls Try.prog 12 #[.int .i64 key, .slice (some ⟨b, 0, none⟩) 1 1] W fun e w' => e = .returned (.tuple #[.int .i64 tg, .nilIface]) ∧ W = w') := MK0
                have HNEW := hide hnew
                clear hkey htg hnew MK0
                go_wp2_with fail
                refine (MK.out _ _ (objNew (by simp))).mono ?_
                rintro e w501 ⟨rfl, rfl⟩
                go_wp2_with fail
                go_loopw [17] (fun kk ww => ∃ q : Nat, kk = .int .i64 (q : Int) ∧ q ≤ ts.length ∧ ww = w21.alloc (.cells #[.int .i64 (n * 30 + m)] 3)) (fun kk _ => 100 - (intOf kk).toNat)
                case atStart => exact ⟨0, rfl, by omega, rfl⟩
                case round =>
                  obtain ⟨q, rfl, hq, rfl⟩ := hrel
                  by_cases hql : q < ts.length
                  · obtain ⟨gb, rfl, hgl, hgc⟩ := Hrow2.out.resolve_left (by omega)
                    have cj := hgc q hql
                    have hne : ts.getD q 0 ≠ tg := fun he => HNEW.out (by rw [← he]; simp [List.getD, List.getElem?_eq_getElem hql])
                    obtain ⟨y, hy⟩ : ∃ y, y = ts.getD q 0 := ⟨_, rfl⟩
                    rw [← hy] at cj hne
                    have tne : (y == tg) = false := beq_eq_false_iff_ne.2 hne
                    clear hy hgc hne
                    go_wp2
                    go_roundw
                    case rel => exact ⟨q + 1, by go_num, by omega, by first | rfl | trivial⟩
                    case measure => simp [intOf] <;> omega
                  · obtain rfl : q = ts.length := by omega
                    have ownA := OWN2.out.alloc (.cells #[.int .i64 (n * 30 + m)] 3)
                    go_wp2_with (first | (at_builtin; refine wpList_append_own _ rfl _ _ 22 rfl (w1.heap.size + 1) 3 i0 (.int .i64 0) 1 8 Try.underlying22 Hi0.out Hz0.out Hz1.out Hz2.out rfl (by decide) _ _ _ rfl (ownA.alloc _) ⟨w21.heap.size + 1, 0, none⟩ 1 1 [.int .i64 tg] rfl rfl ?c1 ?c2 ?c3 ?c4 ?c5 ?_))
                    case c1 =>
                      intro j u hj
                      match j, hj with
                      | 0, hj => simp at hj; subst hj; simp [Addr.add]
                    case c2 => intro u hu; simp at hu; subst hu; rfl
                    case c3 => unfold maxLen; omega
                    case c4 => omega
                    case c5 => simp; omega
                    intro v2 w40 hown2 hgrow _
                    have hg0 : ∀ q, (Value.slice av ts.length cv).ownBlock = some q → w1.heap.size + 1 ≤ q := own_blk OWN2.out
                    have o_b : ObjAt w40 w.heap.size 24 [.int .i64 s, .int .i64 r, .int .i64 hc, .int .i64 t] := grown_obj hgrow (ObjAt.alloc (ObjAt.alloc H21_b.out _) _) (fun q hq => by have := hg0 q hq; omega)
                    have o_l : ObjAt w40 w1.heap.size 82 [.int .i64 n, .int .i64 (m + 1)] := grown_obj hgrow (ObjAt.alloc (ObjAt.alloc H21_l.out _) _) (fun q hq => by have := hg0 q hq; omega)
                    have hB40 : Below w.heap.size w w40 := grown_below ((hB21.alloc (by omega) _).alloc (by simp; omega) _) hgrow (fun q hq => by have := hg0 q hq; omega) (by simp; omega)
                    have hs40 : w1.heap.size + 1 ≤ w40.heap.size := by have := hgrow.size; simp at this; omega
                    have OWN3 := hide (tl_app hown2)
                    clear hg0 hgrow hown2 ownA q21_b_0 f21_b_0 q21_b_1 f21_b_1 q21_b_2 f21_b_2 q21_b_3 f21_b_3 H21_b q21_l_0 q21_l_1 H21_l
                    have t_b_0 := o_b.cell (i := 0) rfl
                    have t_b_1 := o_b.cell (i := 1) rfl
                    have t_b_2 := o_b.cell (i := 2) rfl
                    have t_b_3 := o_b.cell (i := 3) rfl
                    have tf_0 := o_b.free 0
                    have tf_1 := o_b.free 1
                    have tf_2 := o_b.free 2
                    have tf_3 := o_b.free 3
                    have l40_b := o_b.lt
                    have Z_b := hide o_b
                    clear o_b
                    have t_l_0 := o_l.cell (i := 0) rfl
                    have t_l_1 := o_l.cell (i := 1) rfl
                    have l40_l := o_l.lt
                    have Z_l := hide o_l
                    clear o_l
                    have hy40 : w.heap.size ≤ w40.heap.size := hB40.size
                    have hbk2 : buckB s r hc t = true := by unfold buckB; rw [tmB_true.2 ⟨q1, q2⟩]; simp; omega
                    by_cases hcz : 1 ≤ hc
                    ·
                      have TK0 := fun W => bucketTake_ok (n := 1) hbk2 (tmB_true.2 ⟨q1, q2⟩) (Int.le_refl t) (by omega) (by rw [buckH_self hc1]; exact hcz) W
                      rw [buckH_self hc1] at TK0
                      have TK := hide TK0
                      clear TK0 hbk2
                      go_wp2_with fail
                      refine (TK.out _).mono ?_
                      rintro e w41 ⟨rfl, hb41⟩
                      have hB41 : Below w.heap.size w w41 := by
                        refine Below.trans ?_ (Below.mono hb41 ?_)
                        · go_grown
                        · first | omega | (simp; done) | (simp; omega)
                      have o41_b : ObjAt w41 (w.heap.size) 24 [.int .i64 s, .int .i64 r, .int .i64 hc, .int .i64 t] := ObjAt.below (Z_b.out) hb41
                      have o41_l : ObjAt w41 (w1.heap.size) 82 [.int .i64 n, .int .i64 (m + 1)] := ObjAt.below (Z_l.out) hb41
                      clear t_b_0 t_b_1 t_b_2 t_b_3 tf_0 tf_1 tf_2 tf_3 Z_b t_l_0 t_l_1 Z_l
                      have q41_b_0 := o41_b.cell (i := 0) rfl
                      have f41_b_0 := o41_b.free 0
                      have q41_b_1 := o41_b.cell (i := 1) rfl
                      have f41_b_1 := o41_b.free 1
                      have q41_b_2 := o41_b.cell (i := 2) rfl
                      have f41_b_2 := o41_b.free 2
                      have q41_b_3 := o41_b.cell (i := 3) rfl
                      have f41_b_3 := o41_b.free 3
                      have l41_b := o41_b.lt
                      have H41_b := hide o41_b
                      clear o41_b
                      have q41_l_0 := o41_l.cell (i := 0) rfl
                      have q41_l_1 := o41_l.cell (i := 1) rfl
                      have l41_l := o41_l.lt
                      have H41_l := hide o41_l
                      clear o41_l
                      have hy41 : w.heap.size ≤ w41.heap.size := hB41.size
                      have own4 : w41.ownsRow (w1.heap.size + 1) 3 1 v2 (ts ++ [tg]).length ((ts ++ [tg]).map (Value.int .i64)) := own_below OWN3.out hb41
                      have hs4 : w1.heap.size + 1 ≤ w41.heap.size := Nat.le_trans hs40 hb41.size
                      have OWN4 := hide own4
                      clear own4 hb41
                      go_wp2
                      go_roundw
                      have hq5 : h - (took + 1) = hc - 1 := by rw [HHC.out]; omega
                      have hq9 : took + 1 ≤ h := by have := HHC.out; omega
                      case rel => exact ⟨j + 1, n, m + 1, took + 1, ts ++ [tg], by go_num, by omega, by omega, by go_num, by omega, by omega, by omega, by omega, by omega, by omega, by omega, hJ2, by simp; omega, (own_set4 OWN4.out (by omega)).alloc _, (by rw [hq5]; exact ObjAt.alloc (ObjAt.set4 (H41_b.out)) _), ObjAt.alloc (ObjAt.other4 (H41_l.out) (by omega)) _, by simp; omega, by go_grown⟩
                      case measure => simp [intOf] <;> omega
                    ·
                      have TK : Hid (∀ W, Calls Try.prog 13 #[.agg #[.int .i64 s, .int .i64 r, .int .i64 hc, .int .i64 t], .int .i64 t, .int .i64 1] W fun r w' => r = .returned (.tuple #[.agg #[.int .i64 0, .int .i64 0, .int .i64 0, .int .i64 0], .iface 83 (.int .i64 4)]) ∧ Below W.heap.size W w') := bucketTake_bad (c := 4) (by unfold buckTE; rw [if_neg (by unfold buckAtE; rw [hbk2, tmB_true.2 ⟨q1, q2⟩]; simp), if_neg (by decide), buckH_self hc1, if_pos (by omega)]) (by decide)
                      clear hbk2
                      go_wp2_with fail
                      refine (TK.out _).mono ?_
                      rintro e w41 ⟨rfl, hb41⟩
                      have hB41 : Below w.heap.size w w41 := by
                        refine Below.trans ?_ (Below.mono hb41 ?_)
                        · go_grown
                        · first | omega | (simp; done) | (simp; omega)
                      have o41_b : ObjAt w41 (w.heap.size) 24 [.int .i64 s, .int .i64 r, .int .i64 hc, .int .i64 t] := ObjAt.below (Z_b.out) hb41
                      have o41_l : ObjAt w41 (w1.heap.size) 82 [.int .i64 n, .int .i64 (m + 1)] := ObjAt.below (Z_l.out) hb41
                      clear t_b_0 t_b_1 t_b_2 t_b_3 tf_0 tf_1 tf_2 tf_3 Z_b t_l_0 t_l_1 Z_l
                      have q41_b_0 := o41_b.cell (i := 0) rfl
                      have f41_b_0 := o41_b.free 0
                      have q41_b_1 := o41_b.cell (i := 1) rfl
                      have f41_b_1 := o41_b.free 1
                      have q41_b_2 := o41_b.cell (i := 2) rfl
                      have f41_b_2 := o41_b.free 2
                      have q41_b_3 := o41_b.cell (i := 3) rfl
                      have f41_b_3 := o41_b.free 3
                      have l41_b := o41_b.lt
                      have H41_b := hide o41_b
                      clear o41_b
                      have q41_l_0 := o41_l.cell (i := 0) rfl
                      have q41_l_1 := o41_l.cell (i := 1) rfl
                      have l41_l := o41_l.lt
                      have H41_l := hide o41_l
                      clear o41_l
                      have hy41 : w.heap.size ≤ w41.heap.size := hB41.size
                      have own4 : w41.ownsRow (w1.heap.size + 1) 3 1 v2 (ts ++ [tg]).length ((ts ++ [tg]).map (Value.int .i64)) := own_below OWN3.out hb41
                      have hs4 : w1.heap.size + 1 ≤ w41.heap.size := Nat.le_trans hs40 hb41.size
                      have OWN4 := hide own4
                      clear own4 hb41
                      go_wp2
                      go_roundw
                      case rel => exact ⟨j + 1, n, m + 1, took, ts ++ [tg], by go_num, by omega, by omega, by go_num, by omega, by omega, by omega, by omega, by omega, by omega, by omega, hJ2, by simp; omega, OWN4.out.alloc _, (by rw [← HHC.out]; exact ObjAt.alloc (H41_b.out) _), ObjAt.alloc (H41_l.out) _, by simp; omega, by go_grown⟩
                      case measure => simp [intOf] <;> omega
      · have h2' : 40 ≤ j := by omega
        have CK : Hid (∀ W, Calls Try.prog 14 #[.agg #[.int .i64 s, .int .i64 r, .int .i64 hc, .int .i64 t]] W fun r w' => r = .returned (.nilIface) ∧ Below W.heap.size W w') := hide (fun W => bucketCheck_ok (by unfold buckB; rw [tmB_true.2 ⟨q1, q2⟩]; simp; omega) W)
        have hq6 : (hc == h - took) = true := by rw [HHC.out]; simp
        have hq7 : 0 ≤ h - took := by omega
        have hq8 : h - took ≤ 100 := by omega
        go_wp2_with fail
        refine (CK.out _).mono ?_
        rintro e w21 ⟨rfl, hb21⟩
        have hB21 : Below w.heap.size w w21 := by
          refine Below.trans ?_ (Below.mono hb21 ?_)
          · go_grown
          · first | omega | (simp; done) | (simp; omega)
        have o21_b : ObjAt w21 (w.heap.size) 24 [.int .i64 s, .int .i64 r, .int .i64 hc, .int .i64 t] := ObjAt.below (O_b.out) hb21
        have o21_l : ObjAt w21 (w1.heap.size) 82 [.int .i64 n, .int .i64 m] := ObjAt.below (O_l.out) hb21
        clear p_b_0 p_b_1 p_b_2 p_b_3 g_b_0 g_b_1 g_b_2 g_b_3 p_l_0 p_l_1 O_b O_l
        have q21_b_0 := o21_b.cell (i := 0) rfl
        have f21_b_0 := o21_b.free 0
        have q21_b_1 := o21_b.cell (i := 1) rfl
        have f21_b_1 := o21_b.free 1
        have q21_b_2 := o21_b.cell (i := 2) rfl
        have f21_b_2 := o21_b.free 2
        have q21_b_3 := o21_b.cell (i := 3) rfl
        have f21_b_3 := o21_b.free 3
        have l21_b := o21_b.lt
        have H21_b := hide o21_b
        clear o21_b
        have q21_l_0 := o21_l.cell (i := 0) rfl
        have q21_l_1 := o21_l.cell (i := 1) rfl
        have l21_l := o21_l.lt
        have H21_l := hide o21_l
        clear o21_l
        have hy21 : w.heap.size ≤ w21.heap.size := hB21.size
        clear hb21
        go_wp2
        go_ret
        exact ⟨rfl, by go_grown⟩
    · have h1' : len ≤ j := by omega
      have CK : Hid (∀ W, Calls Try.prog 14 #[.agg #[.int .i64 s, .int .i64 r, .int .i64 hc, .int .i64 t]] W fun r w' => r = .returned (.nilIface) ∧ Below W.heap.size W w') := hide (fun W => bucketCheck_ok (by unfold buckB; rw [tmB_true.2 ⟨q1, q2⟩]; simp; omega) W)
      have hq6 : (hc == h - took) = true := by rw [HHC.out]; simp
      have hq7 : 0 ≤ h - took := by omega
      have hq8 : h - took ≤ 100 := by omega
      go_wp2_with fail
      refine (CK.out _).mono ?_
      rintro e w21 ⟨rfl, hb21⟩
      have hB21 : Below w.heap.size w w21 := by
        refine Below.trans ?_ (Below.mono hb21 ?_)
        · go_grown
        · first | omega | (simp; done) | (simp; omega)
      have o21_b : ObjAt w21 (w.heap.size) 24 [.int .i64 s, .int .i64 r, .int .i64 hc, .int .i64 t] := ObjAt.below (O_b.out) hb21
      have o21_l : ObjAt w21 (w1.heap.size) 82 [.int .i64 n, .int .i64 m] := ObjAt.below (O_l.out) hb21
      clear p_b_0 p_b_1 p_b_2 p_b_3 g_b_0 g_b_1 g_b_2 g_b_3 p_l_0 p_l_1 O_b O_l
      have q21_b_0 := o21_b.cell (i := 0) rfl
      have f21_b_0 := o21_b.free 0
      have q21_b_1 := o21_b.cell (i := 1) rfl
      have f21_b_1 := o21_b.free 1
      have q21_b_2 := o21_b.cell (i := 2) rfl
      have f21_b_2 := o21_b.free 2
      have q21_b_3 := o21_b.cell (i := 3) rfl
      have f21_b_3 := o21_b.free 3
      have l21_b := o21_b.lt
      have H21_b := hide o21_b
      clear o21_b
      have q21_l_0 := o21_l.cell (i := 0) rfl
      have q21_l_1 := o21_l.cell (i := 1) rfl
      have l21_l := o21_l.lt
      have H21_l := hide o21_l
      clear o21_l
      have hy21 : w.heap.size ≤ w21.heap.size := hB21.size
      clear hb21
      go_wp2
      go_ret
      exact ⟨rfl, by go_grown⟩
end Go.Proofs.Ytmbklchoplgdlaa
