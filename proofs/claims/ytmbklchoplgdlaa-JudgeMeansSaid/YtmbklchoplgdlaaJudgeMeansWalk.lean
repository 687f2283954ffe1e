/- The walk of JudgeMeans. -/
import Derived.Test.YtmbklchoplgdlaaAnswer
import Derived.Test.YtmbklchoplgdlaaTokFacts
import Derived.Test.YtmbklchoplgdlaaRingNew
import Derived.Test.YtmbklchoplgdlaaObj4
import Derived.Deep.Cut
namespace Go.Proofs.Ytmbklchoplgdlaa
open Go.RowKit

theorem ans_ok {e k o a t0 t1 t2 t3 u0 u1 u2 u3 : Int} {s : ByteArray} {wt now li n : Int} {b : Bool} (h : ansN e k o a t0 t1 t2 t3 u0 u1 u2 u3 s wt now li = (n, b, 0)) :
    ringE e k o = 0 ∧ inB a = true ∧ tmB now = true ∧ tmB li = true ∧ needsOf wt (rightB e k o t0 t1 t2 t3 a now li) (oldB e k o u0 u1 u2 u3 now) = (n, 0) ∧ b = earlyB n (oldB e k o u0 u1 u2 u3 now) s := by
  unfold ansN at h
  by_cases hr : ringE e k o = 0
  · rw [if_neg (by simp [hr])] at h
    cases hx : (inB a && tmB now && tmB li)
    · rw [if_pos hx] at h; simp at h
    · rw [if_neg (by simp [hx])] at h
      simp only [Bool.and_eq_true] at hx
      obtain ⟨nv, nc, hn⟩ : ∃ v c, needsOf wt (rightB e k o t0 t1 t2 t3 a now li) (oldB e k o u0 u1 u2 u3 now) = (v, c) := ⟨_, _, rfl⟩
      rw [hn] at h
      simp only at h
      by_cases hc : nc = 0
      · rw [if_neg (by simp [hc])] at h
        simp only [Prod.mk.injEq] at h
        exact ⟨hr, hx.1.1, hx.1.2, hx.2, by rw [hn, h.1, hc], by rw [← h.1]; exact h.2.1.symm⟩
      · rw [if_pos hc] at h
        simp only [Prod.mk.injEq] at h
        exact absurd h.2.2 hc
  · rw [if_pos hr] at h
    simp only [Prod.mk.injEq] at h
    exact absurd h.2.2 hr
theorem ans_mk {e k o a t0 t1 t2 t3 u0 u1 u2 u3 : Int} {s : ByteArray} {wt now li n : Int} (hr : ringE e k o = 0) (ha : inB a = true) (hn : tmB now = true) (hl : tmB li = true) (h : needsOf wt (rightB e k o t0 t1 t2 t3 a now li) (oldB e k o u0 u1 u2 u3 now) = (n, 0)) :
    ansN e k o a t0 t1 t2 t3 u0 u1 u2 u3 s wt now li = (n, earlyB n (oldB e k o u0 u1 u2 u3 now) s, 0) := by
  unfold ansN
  rw [if_neg (by simp [hr]), if_neg (by simp [ha, hn, hl]), h]
  simp
theorem needs_cases {n v : Int} {t o : Bool} (h : needsOf n t o = (v, 0)) : (n = 8 ∧ v = 2) ∨ (0 ≤ n ∧ n < 4 ∧ v = 1) ∨ (4 ≤ n ∧ n < 8 ∧ o = true ∧ v = 1) ∨ (4 ≤ n ∧ n < 8 ∧ o = false ∧ t = true ∧ v = 1) ∨ (4 ≤ n ∧ n < 8 ∧ o = false ∧ t = false ∧ v = 0) := by
  unfold needsOf at h
  by_cases h1 : n < 0 ∨ 8 < n
  · rw [if_pos h1] at h; simp at h
  · rw [if_neg h1] at h
    by_cases h2 : n = 8
    · rw [if_pos h2] at h; simp only [Prod.mk.injEq] at h; exact .inl ⟨h2, h.1.symm⟩
    · rw [if_neg h2] at h
      by_cases h3 : 4 ≤ n ∧ t = false ∧ o = false
      · rw [if_pos h3] at h; simp only [Prod.mk.injEq] at h
        exact .inr (.inr (.inr (.inr ⟨h3.1, by omega, h3.2.2, h3.2.1, h.1.symm⟩)))
      · rw [if_neg h3] at h; simp only [Prod.mk.injEq] at h
        by_cases h4 : n < 4
        · exact .inr (.inl ⟨by omega, h4, h.1.symm⟩)
        · cases o
          · cases t
            · exact absurd ⟨by omega, rfl, rfl⟩ h3
            · exact .inr (.inr (.inr (.inl ⟨by omega, by omega, rfl, rfl, h.1.symm⟩)))
          · exact .inr (.inr (.inl ⟨by omega, by omega, rfl, h.1.symm⟩))
theorem early_true {n : Int} {o : Bool} {s : ByteArray} (h : earlyB n o s = true) : n = 1 ∧ o = true ∧ 0 < s.size ∧ s.size ≤ 40 := by
  simp only [earlyB, Bool.and_eq_true, beq_iff_eq, decide_eq_true_eq] at h
  exact ⟨h.1.1, h.1.2, h.2.1, h.2.2⟩
set_option maxRecDepth 100000 in
set_option maxHeartbeats 16000000 in
theorem walkJudgeMeans (w : World) (e k o : Int) (_w1 : (Lit.int .i64 e).wf = true) (_w2 : (Lit.int .i64 k).wf = true) (_w3 : (Lit.int .i64 o).wf = true) (a t0 t1 t2 t3 u0 u1 u2 u3 : Int) (s : ByteArray) (hsz : s.size ≤ maxLen) (wt : Int) (_w4 : (Lit.int .i64 wt).wf = true) (now : Int) (_w5 : (Lit.int .i64 now).wf = true) (li : Int) (_w6 : (Lit.int .i64 li).wf = true) :
    Calls Try.prog 5 #[.agg #[.int .i64 e, .int .i64 k, .int .i64 o], .agg #[.int .i64 a, .int .i64 t0, .int .i64 t1, .int .i64 t2, .int .i64 t3, .int .i64 u0, .int .i64 u1, .int .i64 u2, .int .i64 u3, .string s], .int .i64 wt, .int .i64 now, .int .i64 li] w fun r w' => r = .returned (.bool true) ∧ Below w.heap.size w w' := by
  clear _w1 _w2 _w3 _w4 _w5 _w6
  unfold maxLen at hsz
  have N5 := hide (fun W => ringNew_ok (seed := 5) (by decide) W)
  have hr5 := ringNew_key (seed := 5) (by decide)
  obtain ⟨v5, hv5⟩ : ∃ v, v = tagOf 5 [0] := ⟨_, rfl⟩
  rw [← hv5] at N5 hr5
  have A5 : Hid (∀ W, Calls Try.prog 20 #[.agg #[.int .i64 0, .int .i64 v5, .int .i64 0], .agg #[.int .i64 3, .int .i64 0, .int .i64 0, .int .i64 0, .int .i64 0, .int .i64 0, .int .i64 0, .int .i64 0, .int .i64 0, .string ⟨#[120]⟩], .int .i64 5, .int .i64 1, .int .i64 9] W fun r w' => r = .returned (.tuple #[.int .i64 0, .bool false, .nilIface]) ∧ Below W.heap.size W w') := judgeAnswer (c := 0) (by decide) (by have := ans_mk (s := ⟨#[120]⟩) (n := 0) (wt := 5) (u0 := 0) (u1 := 0) (u2 := 0) (u3 := 0) (t0 := 0) (t1 := 0) (t2 := 0) (t3 := 0) hr5 (show inB 3 = true by decide) (show tmB 1 = true by decide) (show tmB 9 = true by decide) (by simp [rightB, oldB, needsOf]); rw [this]; simp [earlyB])
  obtain ⟨n, b, c, han⟩ : ∃ n b c, ansN e k o a t0 t1 t2 t3 u0 u1 u2 u3 s wt now li = (n, b, c) := ⟨_, _, _, rfl⟩
  have AN := hide (fun W => judgeAnswer (by omega) han W)
  clear hr5 hv5
  go_enter Try.func5, Try.ntmps5
  go_wp2_with fail
  refine (N5.out _).mono ?_
  rintro e w1 ⟨rfl, hb1⟩
  have hB1 : Below w.heap.size w w1 := by
    refine Below.trans ?_ (Below.mono hb1 ?_)
    · go_grown
    · first | omega | (simp; done) | (simp; omega)
  have o1_r : ObjAt w1 (w.heap.size) 40 [.int .i64 e, .int .i64 k, .int .i64 o] := ObjAt.below (ObjAt.alloc (objNew (by simp)) _) hb1
  have o1_h : ObjAt w1 (w.heap.size + 1) 54 [.int .i64 a, .int .i64 t0, .int .i64 t1, .int .i64 t2, .int .i64 t3, .int .i64 u0, .int .i64 u1, .int .i64 u2, .int .i64 u3, .string s] := ObjAt.below (objNew (by simp)) hb1
  have q1_r_0 := o1_r.cell (i := 0) rfl
  have q1_r_1 := o1_r.cell (i := 1) rfl
  have q1_r_2 := o1_r.cell (i := 2) rfl
  have l1_r := o1_r.lt
  have H1_r := hide o1_r
  clear o1_r
  have q1_h_0 := o1_h.cell (i := 0) rfl
  have f1_h_0 := o1_h.free 0
  have q1_h_1 := o1_h.cell (i := 1) rfl
  have f1_h_1 := o1_h.free 1
  have q1_h_2 := o1_h.cell (i := 2) rfl
  have f1_h_2 := o1_h.free 2
  have q1_h_3 := o1_h.cell (i := 3) rfl
  have f1_h_3 := o1_h.free 3
  have q1_h_4 := o1_h.cell (i := 4) rfl
  have f1_h_4 := o1_h.free 4
  have q1_h_5 := o1_h.cell (i := 5) rfl
  have f1_h_5 := o1_h.free 5
  have q1_h_6 := o1_h.cell (i := 6) rfl
  have f1_h_6 := o1_h.free 6
  have q1_h_7 := o1_h.cell (i := 7) rfl
  have f1_h_7 := o1_h.free 7
  have q1_h_8 := o1_h.cell (i := 8) rfl
  have f1_h_8 := o1_h.free 8
  have q1_h_9 := o1_h.cell (i := 9) rfl
  have f1_h_9 := o1_h.free 9
  have l1_h := o1_h.lt
  have H1_h := hide o1_h
  clear o1_h
  have hy1 : w.heap.size ≤ w1.heap.size := hB1.size
  clear hb1
  go_wp2_with fail
  refine (A5.out _).mono ?_
  rintro e w2 ⟨rfl, hb2⟩
  have hB2 : Below w.heap.size w w2 := by
    refine Below.trans ?_ (Below.mono hb2 ?_)
    · go_grown
    · first | omega | (simp; done) | (simp; omega)
  have o2_r : ObjAt w2 (w.heap.size) 40 [.int .i64 e, .int .i64 k, .int .i64 o] := ObjAt.below (ObjAt.alloc (H1_r.out) _) hb2
  have o2_h : ObjAt w2 (w.heap.size + 1) 54 [.int .i64 a, .int .i64 t0, .int .i64 t1, .int .i64 t2, .int .i64 t3, .int .i64 u0, .int .i64 u1, .int .i64 u2, .int .i64 u3, .string s] := ObjAt.below (ObjAt.alloc (H1_h.out) _) hb2
  have o2_five : ObjAt w2 (w1.heap.size) 40 [.int .i64 0, .int .i64 v5, .int .i64 0] := ObjAt.below (objNew (by simp)) hb2
  clear q1_r_0 q1_r_1 q1_r_2 H1_r q1_h_0 f1_h_0 q1_h_1 f1_h_1 q1_h_2 f1_h_2 q1_h_3 f1_h_3 q1_h_4 f1_h_4 q1_h_5 f1_h_5 q1_h_6 f1_h_6 q1_h_7 f1_h_7 q1_h_8 f1_h_8 q1_h_9 f1_h_9 H1_h
  have q2_r_0 := o2_r.cell (i := 0) rfl
  have q2_r_1 := o2_r.cell (i := 1) rfl
  have q2_r_2 := o2_r.cell (i := 2) rfl
  have l2_r := o2_r.lt
  have H2_r := hide o2_r
  clear o2_r
  have q2_h_0 := o2_h.cell (i := 0) rfl
  have f2_h_0 := o2_h.free 0
  have q2_h_1 := o2_h.cell (i := 1) rfl
  have f2_h_1 := o2_h.free 1
  have q2_h_2 := o2_h.cell (i := 2) rfl
  have f2_h_2 := o2_h.free 2
  have q2_h_3 := o2_h.cell (i := 3) rfl
  have f2_h_3 := o2_h.free 3
  have q2_h_4 := o2_h.cell (i := 4) rfl
  have f2_h_4 := o2_h.free 4
  have q2_h_5 := o2_h.cell (i := 5) rfl
  have f2_h_5 := o2_h.free 5
  have q2_h_6 := o2_h.cell (i := 6) rfl
  have f2_h_6 := o2_h.free 6
  have q2_h_7 := o2_h.cell (i := 7) rfl
  have f2_h_7 := o2_h.free 7
  have q2_h_8 := o2_h.cell (i := 8) rfl
  have f2_h_8 := o2_h.free 8
  have q2_h_9 := o2_h.cell (i := 9) rfl
  have f2_h_9 := o2_h.free 9
  have l2_h := o2_h.lt
  have H2_h := hide o2_h
  clear o2_h
  have q2_five_0 := o2_five.cell (i := 0) rfl
  have q2_five_1 := o2_five.cell (i := 1) rfl
  have q2_five_2 := o2_five.cell (i := 2) rfl
  have l2_five := o2_five.lt
  have H2_five := hide o2_five
  clear o2_five
  have hy2 : w.heap.size ≤ w2.heap.size := hB2.size
  clear hb2
  go_wp2_with fail
  refine (AN.out _).mono ?_
  rintro e w3 ⟨rfl, hb3⟩
  have hB3 : Below w.heap.size w w3 := by
    refine Below.trans ?_ (Below.mono hb3 ?_)
    · go_grown
    · first | omega | (simp; done) | (simp; omega)
  have o3_r : ObjAt w3 (w.heap.size) 40 [.int .i64 e, .int .i64 k, .int .i64 o] := ObjAt.below (H2_r.out) hb3
  have o3_h : ObjAt w3 (w.heap.size + 1) 54 [.int .i64 a, .int .i64 t0, .int .i64 t1, .int .i64 t2, .int .i64 t3, .int .i64 u0, .int .i64 u1, .int .i64 u2, .int .i64 u3, .string s] := ObjAt.below (H2_h.out) hb3
  have o3_five : ObjAt w3 (w1.heap.size) 40 [.int .i64 0, .int .i64 v5, .int .i64 0] := ObjAt.below (H2_five.out) hb3
  clear q2_r_0 q2_r_1 q2_r_2 H2_r q2_h_0 f2_h_0 q2_h_1 f2_h_1 q2_h_2 f2_h_2 q2_h_3 f2_h_3 q2_h_4 f2_h_4 q2_h_5 f2_h_5 q2_h_6 f2_h_6 q2_h_7 f2_h_7 q2_h_8 f2_h_8 q2_h_9 f2_h_9 H2_h q2_five_0 q2_five_1 q2_five_2 H2_five
  have q3_r_0 := o3_r.cell (i := 0) rfl
  have q3_r_1 := o3_r.cell (i := 1) rfl
  have q3_r_2 := o3_r.cell (i := 2) rfl
  have l3_r := o3_r.lt
  have H3_r := hide o3_r
  clear o3_r
  have q3_h_0 := o3_h.cell (i := 0) rfl
  have f3_h_0 := o3_h.free 0
  have q3_h_1 := o3_h.cell (i := 1) rfl
  have f3_h_1 := o3_h.free 1
  have q3_h_2 := o3_h.cell (i := 2) rfl
  have f3_h_2 := o3_h.free 2
  have q3_h_3 := o3_h.cell (i := 3) rfl
  have f3_h_3 := o3_h.free 3
  have q3_h_4 := o3_h.cell (i := 4) rfl
  have f3_h_4 := o3_h.free 4
  have q3_h_5 := o3_h.cell (i := 5) rfl
  have f3_h_5 := o3_h.free 5
  have q3_h_6 := o3_h.cell (i := 6) rfl
  have f3_h_6 := o3_h.free 6
  have q3_h_7 := o3_h.cell (i := 7) rfl
  have f3_h_7 := o3_h.free 7
  have q3_h_8 := o3_h.cell (i := 8) rfl
  have f3_h_8 := o3_h.free 8
  have q3_h_9 := o3_h.cell (i := 9) rfl
  have f3_h_9 := o3_h.free 9
  have l3_h := o3_h.lt
  have H3_h := hide o3_h
  clear o3_h
  have q3_five_0 := o3_five.cell (i := 0) rfl
  have q3_five_1 := o3_five.cell (i := 1) rfl
  have q3_five_2 := o3_five.cell (i := 2) rfl
  have l3_five := o3_five.lt
  have H3_five := hide o3_five
  clear o3_five
  have hy3 : w.heap.size ≤ w3.heap.size := hB3.size
  clear hb3
  by_cases hc : c = 0
  ·
    subst hc
    obtain ⟨hr, ha, hn, hl, hnd, hbe⟩ := ans_ok han
    obtain ⟨hnow0, hnow1⟩ := tmB_true.1 hn
    obtain ⟨hli0, hli1⟩ := tmB_true.1 hl
    obtain ⟨he, _, _, _⟩ := ringE_ok hr
    obtain ⟨ov, hov⟩ : ∃ v, oldB e k o u0 u1 u2 u3 now = v := ⟨_, rfl⟩
    obtain ⟨rv, hrv⟩ : ∃ v, rightB e k o t0 t1 t2 t3 a now li = v := ⟨_, rfl⟩
    obtain ⟨tc, htc⟩ : ∃ v, tokE e k o t0 t1 t2 t3 a now li = v := ⟨_, rfl⟩
    rw [hov, hrv] at hnd
    rw [hov] at hbe
    have hrt : rv = true → tc = 0 := fun h => by rw [h] at hrv; simp only [rightB, Bool.and_eq_true, beq_iff_eq] at hrv; rw [← htc]; exact hrv.2
    have htk : ov = true → tickE e k o u0 u1 u2 u3 now = 0 := fun h => by rw [h] at hov; simp only [oldB, Bool.and_eq_true, beq_iff_eq] at hov; exact hov.2
    have CT := hide (fun W => tokenCheck_eq htc W)
    have CO : Hid (∀ W, Calls Try.prog 21 #[.agg #[.int .i64 e, .int .i64 k, .int .i64 o], .agg #[.int .i64 u0, .int .i64 u1, .int .i64 u2, .int .i64 u3], .int .i64 now] W fun r w' => r = .returned (.tuple #[.bool ov, .nilIface]) ∧ Below W.heap.size W w') := judgeOld_eq (c := 0) (by unfold oldN; rw [if_neg (by simp [hr]), if_neg (by simp [hn]), hov])
    have MK := hide (fun W => tokenMake_ok hr ha hn W)
    have htok : tokE e k o e a now (tagOf k [1, a, now]) a now li = 0 := by rw [tokE_at hr (epB_true.2 he) (ringOfN_self _ _ _) ha hn ha hn hl, if_neg (by simp), if_neg (by omega)]
    obtain ⟨g, hg⟩ : ∃ g, g = tagOf k [1, a, now] := ⟨_, rfl⟩
    rw [← hg] at MK htok
    have hrb : rightB e k o e a now g a now li = !(e == 0 && a == 0 && now == 0 && g == 0) := by simp [rightB, htok]
    have A2 : ∀ m, needsOf wt (!(e == 0 && a == 0 && now == 0 && g == 0)) ov = (m, 0) → ∀ W, Calls Try.prog 20 #[.agg #[.int .i64 e, .int .i64 k, .int .i64 o], .agg #[.int .i64 a, .int .i64 e, .int .i64 a, .int .i64 now, .int .i64 g, .int .i64 u0, .int .i64 u1, .int .i64 u2, .int .i64 u3, .string s], .int .i64 wt, .int .i64 now, .int .i64 li] W fun r w' => r = .returned (.tuple #[.int .i64 m, .bool (earlyB m ov s), .nilIface]) ∧ Below W.heap.size W w' := fun m hm => judgeAnswer (c := 0) (by omega) (by rw [ans_mk hr ha hn hl (by rw [hrb, hov]; exact hm), hov])
    have A2H := hide A2
    have HRT := hide hrt
    have HTK := hide htk
    have HBE := hide hbe
    have HND := hide hnd
    clear han hr ha hn hl hnd hbe he hov hrv htc hrt htk htok hg hrb A2
    go_wp2_with fail
    refine (CO.out _).mono ?_
    rintro e w4 ⟨rfl, hb4⟩
    have hB4 : Below w.heap.size w w4 := by
      refine Below.trans ?_ (Below.mono hb4 ?_)
      · go_grown
      · first | omega | (simp; done) | (simp; omega)
    have o4_r : ObjAt w4 (w.heap.size) 40 [.int .i64 e, .int .i64 k, .int .i64 o] := ObjAt.below (H3_r.out) hb4
    have o4_h : ObjAt w4 (w.heap.size + 1) 54 [.int .i64 a, .int .i64 t0, .int .i64 t1, .int .i64 t2, .int .i64 t3, .int .i64 u0, .int .i64 u1, .int .i64 u2, .int .i64 u3, .string s] := ObjAt.below (H3_h.out) hb4
    have o4_five : ObjAt w4 (w1.heap.size) 40 [.int .i64 0, .int .i64 v5, .int .i64 0] := ObjAt.below (H3_five.out) hb4
    clear q3_r_0 q3_r_1 q3_r_2 H3_r q3_h_0 f3_h_0 q3_h_1 f3_h_1 q3_h_2 f3_h_2 q3_h_3 f3_h_3 q3_h_4 f3_h_4 q3_h_5 f3_h_5 q3_h_6 f3_h_6 q3_h_7 f3_h_7 q3_h_8 f3_h_8 q3_h_9 f3_h_9 H3_h q3_five_0 q3_five_1 q3_five_2 H3_five
    have q4_r_0 := o4_r.cell (i := 0) rfl
    have q4_r_1 := o4_r.cell (i := 1) rfl
    have q4_r_2 := o4_r.cell (i := 2) rfl
    have l4_r := o4_r.lt
    have H4_r := hide o4_r
    clear o4_r
    have q4_h_0 := o4_h.cell (i := 0) rfl
    have f4_h_0 := o4_h.free 0
    have q4_h_1 := o4_h.cell (i := 1) rfl
    have f4_h_1 := o4_h.free 1
    have q4_h_2 := o4_h.cell (i := 2) rfl
    have f4_h_2 := o4_h.free 2
    have q4_h_3 := o4_h.cell (i := 3) rfl
    have f4_h_3 := o4_h.free 3
    have q4_h_4 := o4_h.cell (i := 4) rfl
    have f4_h_4 := o4_h.free 4
    have q4_h_5 := o4_h.cell (i := 5) rfl
    have f4_h_5 := o4_h.free 5
    have q4_h_6 := o4_h.cell (i := 6) rfl
    have f4_h_6 := o4_h.free 6
    have q4_h_7 := o4_h.cell (i := 7) rfl
    have f4_h_7 := o4_h.free 7
    have q4_h_8 := o4_h.cell (i := 8) rfl
    have f4_h_8 := o4_h.free 8
    have q4_h_9 := o4_h.cell (i := 9) rfl
    have f4_h_9 := o4_h.free 9
    have l4_h := o4_h.lt
    have H4_h := hide o4_h
    clear o4_h
    have q4_five_0 := o4_five.cell (i := 0) rfl
    have q4_five_1 := o4_five.cell (i := 1) rfl
    have q4_five_2 := o4_five.cell (i := 2) rfl
    have l4_five := o4_five.lt
    have H4_five := hide o4_five
    clear o4_five
    have hy4 : w.heap.size ≤ w4.heap.size := hB4.size
    clear hb4
    rcases needs_cases HND.out with ⟨rfl, rfl⟩ | ⟨hw0, hw1, rfl⟩ | ⟨hw0, hw1, rfl, rfl⟩ | ⟨hw0, hw1, rfl, rfl, rfl⟩ | ⟨hw0, hw1, rfl, rfl, rfl⟩
    ·
      obtain rfl : b = false := by rw [HBE.out]; rfl
      go_wp2_with fail
      refine (CT.out _).mono ?_
      rintro e w5 ⟨rfl, hb5⟩
      have hB5 : Below w.heap.size w w5 := by
        refine Below.trans ?_ (Below.mono hb5 ?_)
        · go_grown
        · first | omega | (simp; done) | (simp; omega)
      have o5_r : ObjAt w5 (w.heap.size) 40 [.int .i64 e, .int .i64 k, .int .i64 o] := ObjAt.below (H4_r.out) hb5
      have o5_h : ObjAt w5 (w.heap.size + 1) 54 [.int .i64 a, .int .i64 t0, .int .i64 t1, .int .i64 t2, .int .i64 t3, .int .i64 u0, .int .i64 u1, .int .i64 u2, .int .i64 u3, .string s] := ObjAt.below (H4_h.out) hb5
      have o5_five : ObjAt w5 (w1.heap.size) 40 [.int .i64 0, .int .i64 v5, .int .i64 0] := ObjAt.below (H4_five.out) hb5
      clear q4_r_0 q4_r_1 q4_r_2 H4_r q4_h_0 f4_h_0 q4_h_1 f4_h_1 q4_h_2 f4_h_2 q4_h_3 f4_h_3 q4_h_4 f4_h_4 q4_h_5 f4_h_5 q4_h_6 f4_h_6 q4_h_7 f4_h_7 q4_h_8 f4_h_8 q4_h_9 f4_h_9 H4_h q4_five_0 q4_five_1 q4_five_2 H4_five
      have q5_r_0 := o5_r.cell (i := 0) rfl
      have q5_r_1 := o5_r.cell (i := 1) rfl
      have q5_r_2 := o5_r.cell (i := 2) rfl
      have l5_r := o5_r.lt
      have H5_r := hide o5_r
      clear o5_r
      have q5_h_0 := o5_h.cell (i := 0) rfl
      have f5_h_0 := o5_h.free 0
      have q5_h_1 := o5_h.cell (i := 1) rfl
      have f5_h_1 := o5_h.free 1
      have q5_h_2 := o5_h.cell (i := 2) rfl
      have f5_h_2 := o5_h.free 2
      have q5_h_3 := o5_h.cell (i := 3) rfl
      have f5_h_3 := o5_h.free 3
      have q5_h_4 := o5_h.cell (i := 4) rfl
      have f5_h_4 := o5_h.free 4
      have q5_h_5 := o5_h.cell (i := 5) rfl
      have f5_h_5 := o5_h.free 5
      have q5_h_6 := o5_h.cell (i := 6) rfl
      have f5_h_6 := o5_h.free 6
      have q5_h_7 := o5_h.cell (i := 7) rfl
      have f5_h_7 := o5_h.free 7
      have q5_h_8 := o5_h.cell (i := 8) rfl
      have f5_h_8 := o5_h.free 8
      have q5_h_9 := o5_h.cell (i := 9) rfl
      have f5_h_9 := o5_h.free 9
      have l5_h := o5_h.lt
      have H5_h := hide o5_h
      clear o5_h
      have q5_five_0 := o5_five.cell (i := 0) rfl
      have q5_five_1 := o5_five.cell (i := 1) rfl
      have q5_five_2 := o5_five.cell (i := 2) rfl
      have l5_five := o5_five.lt
      have H5_five := hide o5_five
      clear o5_five
      have hy5 : w.heap.size ≤ w5.heap.size := hB5.size
      clear hb5
      go_wp2_with fail
      refine (MK.out _).mono ?_
      rintro e w6 ⟨rfl, hb6⟩
      have hB6 : Below w.heap.size w w6 := by
        refine Below.trans ?_ (Below.mono hb6 ?_)
        · go_grown
        · first | omega | (simp; done) | (simp; omega)
      have o6_r : ObjAt w6 (w.heap.size) 40 [.int .i64 e, .int .i64 k, .int .i64 o] := ObjAt.below (H5_r.out) hb6
      have o6_h : ObjAt w6 (w.heap.size + 1) 54 [.int .i64 a, .int .i64 t0, .int .i64 t1, .int .i64 t2, .int .i64 t3, .int .i64 u0, .int .i64 u1, .int .i64 u2, .int .i64 u3, .string s] := ObjAt.below (H5_h.out) hb6
      have o6_five : ObjAt w6 (w1.heap.size) 40 [.int .i64 0, .int .i64 v5, .int .i64 0] := ObjAt.below (H5_five.out) hb6
      clear q5_r_0 q5_r_1 q5_r_2 H5_r q5_h_0 f5_h_0 q5_h_1 f5_h_1 q5_h_2 f5_h_2 q5_h_3 f5_h_3 q5_h_4 f5_h_4 q5_h_5 f5_h_5 q5_h_6 f5_h_6 q5_h_7 f5_h_7 q5_h_8 f5_h_8 q5_h_9 f5_h_9 H5_h q5_five_0 q5_five_1 q5_five_2 H5_five
      have q6_r_0 := o6_r.cell (i := 0) rfl
      have q6_r_1 := o6_r.cell (i := 1) rfl
      have q6_r_2 := o6_r.cell (i := 2) rfl
      have l6_r := o6_r.lt
      have H6_r := hide o6_r
      clear o6_r
      have q6_h_0 := o6_h.cell (i := 0) rfl
      have f6_h_0 := o6_h.free 0
      have q6_h_1 := o6_h.cell (i := 1) rfl
      have f6_h_1 := o6_h.free 1
      have q6_h_2 := o6_h.cell (i := 2) rfl
      have f6_h_2 := o6_h.free 2
      have q6_h_3 := o6_h.cell (i := 3) rfl
      have f6_h_3 := o6_h.free 3
      have q6_h_4 := o6_h.cell (i := 4) rfl
      have f6_h_4 := o6_h.free 4
      have q6_h_5 := o6_h.cell (i := 5) rfl
      have f6_h_5 := o6_h.free 5
      have q6_h_6 := o6_h.cell (i := 6) rfl
      have f6_h_6 := o6_h.free 6
      have q6_h_7 := o6_h.cell (i := 7) rfl
      have f6_h_7 := o6_h.free 7
      have q6_h_8 := o6_h.cell (i := 8) rfl
      have f6_h_8 := o6_h.free 8
      have q6_h_9 := o6_h.cell (i := 9) rfl
      have f6_h_9 := o6_h.free 9
      have l6_h := o6_h.lt
      have H6_h := hide o6_h
      clear o6_h
      have q6_five_0 := o6_five.cell (i := 0) rfl
      have q6_five_1 := o6_five.cell (i := 1) rfl
      have q6_five_2 := o6_five.cell (i := 2) rfl
      have l6_five := o6_five.lt
      have H6_five := hide o6_five
      clear o6_five
      have hy6 : w.heap.size ≤ w6.heap.size := hB6.size
      clear hb6
      go_upto_region 19 with (fail)
      obtain ⟨w7, hW7⟩ : ∃ W : World, W = (((((w6.setCell ⟨w.heap.size + 1, 1, none⟩ (.int .i64 e)).setCell ⟨w.heap.size + 1, 2, none⟩ (.int .i64 a)).setCell ⟨w.heap.size + 1, 3, none⟩ (.int .i64 now)).setCell ⟨w.heap.size + 1, 4, none⟩ (.int .i64 g)).alloc (.cells #[.int .i64 e, .int .i64 a, .int .i64 now, .int .i64 g] 52)).alloc (.cells #[.int .i64 0, .int .i64 0, .int .i64 0, .int .i64 0] 52) := ⟨_, rfl⟩
      have hB7 : Below w.heap.size w w7 := by rw [hW7]; go_grown
      have o7_r : ObjAt w7 (w.heap.size) 40 [.int .i64 e, .int .i64 k, .int .i64 o] := by rw [hW7]; exact ObjAt.alloc (ObjAt.alloc (ObjAt.setOther (ObjAt.setOther (ObjAt.setOther (ObjAt.setOther (H6_r.out) (by first | omega | (simp <;> omega)) _) (by first | omega | (simp <;> omega)) _) (by first | omega | (simp <;> omega)) _) (by first | omega | (simp <;> omega)) _) _) _
      have o7_h : ObjAt w7 (w.heap.size + 1) 54 [.int .i64 a, .int .i64 e, .int .i64 a, .int .i64 now, .int .i64 g, .int .i64 u0, .int .i64 u1, .int .i64 u2, .int .i64 u3, .string s] := by rw [hW7]; exact ObjAt.alloc (ObjAt.alloc (ObjAt.set (ObjAt.set (ObjAt.set (ObjAt.set (H6_h.out) 1 _) 2 _) 3 _) 4 _) _) _
      have o7_five : ObjAt w7 (w1.heap.size) 40 [.int .i64 0, .int .i64 v5, .int .i64 0] := by rw [hW7]; exact ObjAt.alloc (ObjAt.alloc (ObjAt.setOther (ObjAt.setOther (ObjAt.setOther (ObjAt.setOther (H6_five.out) (by first | omega | (simp <;> omega)) _) (by first | omega | (simp <;> omega)) _) (by first | omega | (simp <;> omega)) _) (by first | omega | (simp <;> omega)) _) _) _
      have o7_t : ObjAt w7 (w6.heap.size) 52 [.int .i64 e, .int .i64 a, .int .i64 now, .int .i64 g] := by rw [hW7]; exact ObjAt.alloc (objNew (by simp)) _
      have o7_none : ObjAt w7 (w6.heap.size + 1) 52 [.int .i64 0, .int .i64 0, .int .i64 0, .int .i64 0] := by rw [hW7]; exact objNew (by simp)
      rw [← hW7]
      clear hW7
      clear q6_r_0 q6_r_1 q6_r_2 H6_r q6_h_0 f6_h_0 q6_h_1 f6_h_1 q6_h_2 f6_h_2 q6_h_3 f6_h_3 q6_h_4 f6_h_4 q6_h_5 f6_h_5 q6_h_6 f6_h_6 q6_h_7 f6_h_7 q6_h_8 f6_h_8 q6_h_9 f6_h_9 H6_h q6_five_0 q6_five_1 q6_five_2 H6_five
      have q7_r_0 := o7_r.cell (i := 0) rfl
      have q7_r_1 := o7_r.cell (i := 1) rfl
      have q7_r_2 := o7_r.cell (i := 2) rfl
      have l7_r := o7_r.lt
      have H7_r := hide o7_r
      clear o7_r
      have q7_h_0 := o7_h.cell (i := 0) rfl
      have f7_h_0 := o7_h.free 0
      have q7_h_1 := o7_h.cell (i := 1) rfl
      have f7_h_1 := o7_h.free 1
      have q7_h_2 := o7_h.cell (i := 2) rfl
      have f7_h_2 := o7_h.free 2
      have q7_h_3 := o7_h.cell (i := 3) rfl
      have f7_h_3 := o7_h.free 3
      have q7_h_4 := o7_h.cell (i := 4) rfl
      have f7_h_4 := o7_h.free 4
      have q7_h_5 := o7_h.cell (i := 5) rfl
      have f7_h_5 := o7_h.free 5
      have q7_h_6 := o7_h.cell (i := 6) rfl
      have f7_h_6 := o7_h.free 6
      have q7_h_7 := o7_h.cell (i := 7) rfl
      have f7_h_7 := o7_h.free 7
      have q7_h_8 := o7_h.cell (i := 8) rfl
      have f7_h_8 := o7_h.free 8
      have q7_h_9 := o7_h.cell (i := 9) rfl
      have f7_h_9 := o7_h.free 9
      have l7_h := o7_h.lt
      have H7_h := hide o7_h
      clear o7_h
      have q7_five_0 := o7_five.cell (i := 0) rfl
      have q7_five_1 := o7_five.cell (i := 1) rfl
      have q7_five_2 := o7_five.cell (i := 2) rfl
      have l7_five := o7_five.lt
      have H7_five := hide o7_five
      clear o7_five
      have q7_t_0 := o7_t.cell (i := 0) rfl
      have q7_t_1 := o7_t.cell (i := 1) rfl
      have q7_t_2 := o7_t.cell (i := 2) rfl
      have q7_t_3 := o7_t.cell (i := 3) rfl
      have l7_t := o7_t.lt
      have H7_t := hide o7_t
      clear o7_t
      have q7_none_0 := o7_none.cell (i := 0) rfl
      have q7_none_1 := o7_none.cell (i := 1) rfl
      have q7_none_2 := o7_none.cell (i := 2) rfl
      have q7_none_3 := o7_none.cell (i := 3) rfl
      have l7_none := o7_none.lt
      have H7_none := hide o7_none
      clear o7_none
      have hy7 : w.heap.size ≤ w7.heap.size := hB7.size
      have AA := hide (A2H.out 2 (by simp [needsOf]))
      go_wp2_with fail
      refine (AA.out _).mono ?_
      rintro e w8 ⟨rfl, hb8⟩
      have hB8 : Below w.heap.size w w8 := by
        refine Below.trans ?_ (Below.mono hb8 ?_)
        · go_grown
        · first | omega | (simp; done) | (simp; omega)
      have o8_r : ObjAt w8 (w.heap.size) 40 [.int .i64 e, .int .i64 k, .int .i64 o] := ObjAt.below (H7_r.out) hb8
      have o8_h : ObjAt w8 (w.heap.size + 1) 54 [.int .i64 a, .int .i64 e, .int .i64 a, .int .i64 now, .int .i64 g, .int .i64 u0, .int .i64 u1, .int .i64 u2, .int .i64 u3, .string s] := ObjAt.below (H7_h.out) hb8
      have o8_five : ObjAt w8 (w1.heap.size) 40 [.int .i64 0, .int .i64 v5, .int .i64 0] := ObjAt.below (H7_five.out) hb8
      have o8_t : ObjAt w8 (w6.heap.size) 52 [.int .i64 e, .int .i64 a, .int .i64 now, .int .i64 g] := ObjAt.below (H7_t.out) hb8
      have o8_none : ObjAt w8 (w6.heap.size + 1) 52 [.int .i64 0, .int .i64 0, .int .i64 0, .int .i64 0] := ObjAt.below (H7_none.out) hb8
      clear q7_r_0 q7_r_1 q7_r_2 H7_r q7_h_0 f7_h_0 q7_h_1 f7_h_1 q7_h_2 f7_h_2 q7_h_3 f7_h_3 q7_h_4 f7_h_4 q7_h_5 f7_h_5 q7_h_6 f7_h_6 q7_h_7 f7_h_7 q7_h_8 f7_h_8 q7_h_9 f7_h_9 H7_h q7_five_0 q7_five_1 q7_five_2 H7_five q7_t_0 q7_t_1 q7_t_2 q7_t_3 H7_t q7_none_0 q7_none_1 q7_none_2 q7_none_3 H7_none
      have q8_r_0 := o8_r.cell (i := 0) rfl
      have q8_r_1 := o8_r.cell (i := 1) rfl
      have q8_r_2 := o8_r.cell (i := 2) rfl
      have l8_r := o8_r.lt
      have H8_r := hide o8_r
      clear o8_r
      have q8_h_0 := o8_h.cell (i := 0) rfl
      have f8_h_0 := o8_h.free 0
      have q8_h_1 := o8_h.cell (i := 1) rfl
      have f8_h_1 := o8_h.free 1
      have q8_h_2 := o8_h.cell (i := 2) rfl
      have f8_h_2 := o8_h.free 2
      have q8_h_3 := o8_h.cell (i := 3) rfl
      have f8_h_3 := o8_h.free 3
      have q8_h_4 := o8_h.cell (i := 4) rfl
      have f8_h_4 := o8_h.free 4
      have q8_h_5 := o8_h.cell (i := 5) rfl
      have f8_h_5 := o8_h.free 5
      have q8_h_6 := o8_h.cell (i := 6) rfl
      have f8_h_6 := o8_h.free 6
      have q8_h_7 := o8_h.cell (i := 7) rfl
      have f8_h_7 := o8_h.free 7
      have q8_h_8 := o8_h.cell (i := 8) rfl
      have f8_h_8 := o8_h.free 8
      have q8_h_9 := o8_h.cell (i := 9) rfl
      have f8_h_9 := o8_h.free 9
      have l8_h := o8_h.lt
      have H8_h := hide o8_h
      clear o8_h
      have q8_five_0 := o8_five.cell (i := 0) rfl
      have q8_five_1 := o8_five.cell (i := 1) rfl
      have q8_five_2 := o8_five.cell (i := 2) rfl
      have l8_five := o8_five.lt
      have H8_five := hide o8_five
      clear o8_five
      have q8_t_0 := o8_t.cell (i := 0) rfl
      have q8_t_1 := o8_t.cell (i := 1) rfl
      have q8_t_2 := o8_t.cell (i := 2) rfl
      have q8_t_3 := o8_t.cell (i := 3) rfl
      have l8_t := o8_t.lt
      have H8_t := hide o8_t
      clear o8_t
      have q8_none_0 := o8_none.cell (i := 0) rfl
      have q8_none_1 := o8_none.cell (i := 1) rfl
      have q8_none_2 := o8_none.cell (i := 2) rfl
      have q8_none_3 := o8_none.cell (i := 3) rfl
      have l8_none := o8_none.lt
      have H8_none := hide o8_none
      clear o8_none
      have hy8 : w.heap.size ≤ w8.heap.size := hB8.size
      clear hb8
      go_wp2
      go_ret
      exact ⟨rfl, by go_grown⟩
    ·
      go_wp2_with fail
      refine (CT.out _).mono ?_
      rintro e w5 ⟨rfl, hb5⟩
      have hB5 : Below w.heap.size w w5 := by
        refine Below.trans ?_ (Below.mono hb5 ?_)
        · go_grown
        · first | omega | (simp; done) | (simp; omega)
      have o5_r : ObjAt w5 (w.heap.size) 40 [.int .i64 e, .int .i64 k, .int .i64 o] := ObjAt.below (H4_r.out) hb5
      have o5_h : ObjAt w5 (w.heap.size + 1) 54 [.int .i64 a, .int .i64 t0, .int .i64 t1, .int .i64 t2, .int .i64 t3, .int .i64 u0, .int .i64 u1, .int .i64 u2, .int .i64 u3, .string s] := ObjAt.below (H4_h.out) hb5
      have o5_five : ObjAt w5 (w1.heap.size) 40 [.int .i64 0, .int .i64 v5, .int .i64 0] := ObjAt.below (H4_five.out) hb5
      clear q4_r_0 q4_r_1 q4_r_2 H4_r q4_h_0 f4_h_0 q4_h_1 f4_h_1 q4_h_2 f4_h_2 q4_h_3 f4_h_3 q4_h_4 f4_h_4 q4_h_5 f4_h_5 q4_h_6 f4_h_6 q4_h_7 f4_h_7 q4_h_8 f4_h_8 q4_h_9 f4_h_9 H4_h q4_five_0 q4_five_1 q4_five_2 H4_five
      have q5_r_0 := o5_r.cell (i := 0) rfl
      have q5_r_1 := o5_r.cell (i := 1) rfl
      have q5_r_2 := o5_r.cell (i := 2) rfl
      have l5_r := o5_r.lt
      have H5_r := hide o5_r
      clear o5_r
      have q5_h_0 := o5_h.cell (i := 0) rfl
      have f5_h_0 := o5_h.free 0
      have q5_h_1 := o5_h.cell (i := 1) rfl
      have f5_h_1 := o5_h.free 1
      have q5_h_2 := o5_h.cell (i := 2) rfl
      have f5_h_2 := o5_h.free 2
      have q5_h_3 := o5_h.cell (i := 3) rfl
      have f5_h_3 := o5_h.free 3
      have q5_h_4 := o5_h.cell (i := 4) rfl
      have f5_h_4 := o5_h.free 4
      have q5_h_5 := o5_h.cell (i := 5) rfl
      have f5_h_5 := o5_h.free 5
      have q5_h_6 := o5_h.cell (i := 6) rfl
      have f5_h_6 := o5_h.free 6
      have q5_h_7 := o5_h.cell (i := 7) rfl
      have f5_h_7 := o5_h.free 7
      have q5_h_8 := o5_h.cell (i := 8) rfl
      have f5_h_8 := o5_h.free 8
      have q5_h_9 := o5_h.cell (i := 9) rfl
      have f5_h_9 := o5_h.free 9
      have l5_h := o5_h.lt
      have H5_h := hide o5_h
      clear o5_h
      have q5_five_0 := o5_five.cell (i := 0) rfl
      have q5_five_1 := o5_five.cell (i := 1) rfl
      have q5_five_2 := o5_five.cell (i := 2) rfl
      have l5_five := o5_five.lt
      have H5_five := hide o5_five
      clear o5_five
      have hy5 : w.heap.size ≤ w5.heap.size := hB5.size
      clear hb5
      cases b
      ·
        go_wp2_with fail
        refine (MK.out _).mono ?_
        rintro e w6 ⟨rfl, hb6⟩
        have hB6 : Below w.heap.size w w6 := by
          refine Below.trans ?_ (Below.mono hb6 ?_)
          · go_grown
          · first | omega | (simp; done) | (simp; omega)
        have o6_r : ObjAt w6 (w.heap.size) 40 [.int .i64 e, .int .i64 k, .int .i64 o] := ObjAt.below (H5_r.out) hb6
        have o6_h : ObjAt w6 (w.heap.size + 1) 54 [.int .i64 a, .int .i64 t0, .int .i64 t1, .int .i64 t2, .int .i64 t3, .int .i64 u0, .int .i64 u1, .int .i64 u2, .int .i64 u3, .string s] := ObjAt.below (H5_h.out) hb6
        have o6_five : ObjAt w6 (w1.heap.size) 40 [.int .i64 0, .int .i64 v5, .int .i64 0] := ObjAt.below (H5_five.out) hb6
        clear q5_r_0 q5_r_1 q5_r_2 H5_r q5_h_0 f5_h_0 q5_h_1 f5_h_1 q5_h_2 f5_h_2 q5_h_3 f5_h_3 q5_h_4 f5_h_4 q5_h_5 f5_h_5 q5_h_6 f5_h_6 q5_h_7 f5_h_7 q5_h_8 f5_h_8 q5_h_9 f5_h_9 H5_h q5_five_0 q5_five_1 q5_five_2 H5_five
        have q6_r_0 := o6_r.cell (i := 0) rfl
        have q6_r_1 := o6_r.cell (i := 1) rfl
        have q6_r_2 := o6_r.cell (i := 2) rfl
        have l6_r := o6_r.lt
        have H6_r := hide o6_r
        clear o6_r
        have q6_h_0 := o6_h.cell (i := 0) rfl
        have f6_h_0 := o6_h.free 0
        have q6_h_1 := o6_h.cell (i := 1) rfl
        have f6_h_1 := o6_h.free 1
        have q6_h_2 := o6_h.cell (i := 2) rfl
        have f6_h_2 := o6_h.free 2
        have q6_h_3 := o6_h.cell (i := 3) rfl
        have f6_h_3 := o6_h.free 3
        have q6_h_4 := o6_h.cell (i := 4) rfl
        have f6_h_4 := o6_h.free 4
        have q6_h_5 := o6_h.cell (i := 5) rfl
        have f6_h_5 := o6_h.free 5
        have q6_h_6 := o6_h.cell (i := 6) rfl
        have f6_h_6 := o6_h.free 6
        have q6_h_7 := o6_h.cell (i := 7) rfl
        have f6_h_7 := o6_h.free 7
        have q6_h_8 := o6_h.cell (i := 8) rfl
        have f6_h_8 := o6_h.free 8
        have q6_h_9 := o6_h.cell (i := 9) rfl
        have f6_h_9 := o6_h.free 9
        have l6_h := o6_h.lt
        have H6_h := hide o6_h
        clear o6_h
        have q6_five_0 := o6_five.cell (i := 0) rfl
        have q6_five_1 := o6_five.cell (i := 1) rfl
        have q6_five_2 := o6_five.cell (i := 2) rfl
        have l6_five := o6_five.lt
        have H6_five := hide o6_five
        clear o6_five
        have hy6 : w.heap.size ≤ w6.heap.size := hB6.size
        clear hb6
        go_upto_region 19 with (fail)
        obtain ⟨w7, hW7⟩ : ∃ W : World, W = (((((w6.setCell ⟨w.heap.size + 1, 1, none⟩ (.int .i64 e)).setCell ⟨w.heap.size + 1, 2, none⟩ (.int .i64 a)).setCell ⟨w.heap.size + 1, 3, none⟩ (.int .i64 now)).setCell ⟨w.heap.size + 1, 4, none⟩ (.int .i64 g)).alloc (.cells #[.int .i64 e, .int .i64 a, .int .i64 now, .int .i64 g] 52)).alloc (.cells #[.int .i64 0, .int .i64 0, .int .i64 0, .int .i64 0] 52) := ⟨_, rfl⟩
        have hB7 : Below w.heap.size w w7 := by rw [hW7]; go_grown
        have o7_r : ObjAt w7 (w.heap.size) 40 [.int .i64 e, .int .i64 k, .int .i64 o] := by rw [hW7]; exact ObjAt.alloc (ObjAt.alloc (ObjAt.setOther (ObjAt.setOther (ObjAt.setOther (ObjAt.setOther (H6_r.out) (by first | omega | (simp <;> omega)) _) (by first | omega | (simp <;> omega)) _) (by first | omega | (simp <;> omega)) _) (by first | omega | (simp <;> omega)) _) _) _
        have o7_h : ObjAt w7 (w.heap.size + 1) 54 [.int .i64 a, .int .i64 e, .int .i64 a, .int .i64 now, .int .i64 g, .int .i64 u0, .int .i64 u1, .int .i64 u2, .int .i64 u3, .string s] := by rw [hW7]; exact ObjAt.alloc (ObjAt.alloc (ObjAt.set (ObjAt.set (ObjAt.set (ObjAt.set (H6_h.out) 1 _) 2 _) 3 _) 4 _) _) _
        have o7_five : ObjAt w7 (w1.heap.size) 40 [.int .i64 0, .int .i64 v5, .int .i64 0] := by rw [hW7]; exact ObjAt.alloc (ObjAt.alloc (ObjAt.setOther (ObjAt.setOther (ObjAt.setOther (ObjAt.setOther (H6_five.out) (by first | omega | (simp <;> omega)) _) (by first | omega | (simp <;> omega)) _) (by first | omega | (simp <;> omega)) _) (by first | omega | (simp <;> omega)) _) _) _
        have o7_t : ObjAt w7 (w6.heap.size) 52 [.int .i64 e, .int .i64 a, .int .i64 now, .int .i64 g] := by rw [hW7]; exact ObjAt.alloc (objNew (by simp)) _
        have o7_none : ObjAt w7 (w6.heap.size + 1) 52 [.int .i64 0, .int .i64 0, .int .i64 0, .int .i64 0] := by rw [hW7]; exact objNew (by simp)
        rw [← hW7]
        clear hW7
        clear q6_r_0 q6_r_1 q6_r_2 H6_r q6_h_0 f6_h_0 q6_h_1 f6_h_1 q6_h_2 f6_h_2 q6_h_3 f6_h_3 q6_h_4 f6_h_4 q6_h_5 f6_h_5 q6_h_6 f6_h_6 q6_h_7 f6_h_7 q6_h_8 f6_h_8 q6_h_9 f6_h_9 H6_h q6_five_0 q6_five_1 q6_five_2 H6_five
        have q7_r_0 := o7_r.cell (i := 0) rfl
        have q7_r_1 := o7_r.cell (i := 1) rfl
        have q7_r_2 := o7_r.cell (i := 2) rfl
        have l7_r := o7_r.lt
        have H7_r := hide o7_r
        clear o7_r
        have q7_h_0 := o7_h.cell (i := 0) rfl
        have f7_h_0 := o7_h.free 0
        have q7_h_1 := o7_h.cell (i := 1) rfl
        have f7_h_1 := o7_h.free 1
        have q7_h_2 := o7_h.cell (i := 2) rfl
        have f7_h_2 := o7_h.free 2
        have q7_h_3 := o7_h.cell (i := 3) rfl
        have f7_h_3 := o7_h.free 3
        have q7_h_4 := o7_h.cell (i := 4) rfl
        have f7_h_4 := o7_h.free 4
        have q7_h_5 := o7_h.cell (i := 5) rfl
        have f7_h_5 := o7_h.free 5
        have q7_h_6 := o7_h.cell (i := 6) rfl
        have f7_h_6 := o7_h.free 6
        have q7_h_7 := o7_h.cell (i := 7) rfl
        have f7_h_7 := o7_h.free 7
        have q7_h_8 := o7_h.cell (i := 8) rfl
        have f7_h_8 := o7_h.free 8
        have q7_h_9 := o7_h.cell (i := 9) rfl
        have f7_h_9 := o7_h.free 9
        have l7_h := o7_h.lt
        have H7_h := hide o7_h
        clear o7_h
        have q7_five_0 := o7_five.cell (i := 0) rfl
        have q7_five_1 := o7_five.cell (i := 1) rfl
        have q7_five_2 := o7_five.cell (i := 2) rfl
        have l7_five := o7_five.lt
        have H7_five := hide o7_five
        clear o7_five
        have q7_t_0 := o7_t.cell (i := 0) rfl
        have q7_t_1 := o7_t.cell (i := 1) rfl
        have q7_t_2 := o7_t.cell (i := 2) rfl
        have q7_t_3 := o7_t.cell (i := 3) rfl
        have l7_t := o7_t.lt
        have H7_t := hide o7_t
        clear o7_t
        have q7_none_0 := o7_none.cell (i := 0) rfl
        have q7_none_1 := o7_none.cell (i := 1) rfl
        have q7_none_2 := o7_none.cell (i := 2) rfl
        have q7_none_3 := o7_none.cell (i := 3) rfl
        have l7_none := o7_none.lt
        have H7_none := hide o7_none
        clear o7_none
        have hy7 : w.heap.size ≤ w7.heap.size := hB7.size
        have AA := hide (A2H.out 1 (by unfold needsOf; rw [if_neg (by omega), if_neg (by omega), if_neg (by omega)]))
        go_wp2_with fail
        refine (AA.out _).mono ?_
        rintro e w8 ⟨rfl, hb8⟩
        have hB8 : Below w.heap.size w w8 := by
          refine Below.trans ?_ (Below.mono hb8 ?_)
          · go_grown
          · first | omega | (simp; done) | (simp; omega)
        have o8_r : ObjAt w8 (w.heap.size) 40 [.int .i64 e, .int .i64 k, .int .i64 o] := ObjAt.below (H7_r.out) hb8
        have o8_h : ObjAt w8 (w.heap.size + 1) 54 [.int .i64 a, .int .i64 e, .int .i64 a, .int .i64 now, .int .i64 g, .int .i64 u0, .int .i64 u1, .int .i64 u2, .int .i64 u3, .string s] := ObjAt.below (H7_h.out) hb8
        have o8_five : ObjAt w8 (w1.heap.size) 40 [.int .i64 0, .int .i64 v5, .int .i64 0] := ObjAt.below (H7_five.out) hb8
        have o8_t : ObjAt w8 (w6.heap.size) 52 [.int .i64 e, .int .i64 a, .int .i64 now, .int .i64 g] := ObjAt.below (H7_t.out) hb8
        have o8_none : ObjAt w8 (w6.heap.size + 1) 52 [.int .i64 0, .int .i64 0, .int .i64 0, .int .i64 0] := ObjAt.below (H7_none.out) hb8
        clear q7_r_0 q7_r_1 q7_r_2 H7_r q7_h_0 f7_h_0 q7_h_1 f7_h_1 q7_h_2 f7_h_2 q7_h_3 f7_h_3 q7_h_4 f7_h_4 q7_h_5 f7_h_5 q7_h_6 f7_h_6 q7_h_7 f7_h_7 q7_h_8 f7_h_8 q7_h_9 f7_h_9 H7_h q7_five_0 q7_five_1 q7_five_2 H7_five q7_t_0 q7_t_1 q7_t_2 q7_t_3 H7_t q7_none_0 q7_none_1 q7_none_2 q7_none_3 H7_none
        have q8_r_0 := o8_r.cell (i := 0) rfl
        have q8_r_1 := o8_r.cell (i := 1) rfl
        have q8_r_2 := o8_r.cell (i := 2) rfl
        have l8_r := o8_r.lt
        have H8_r := hide o8_r
        clear o8_r
        have q8_h_0 := o8_h.cell (i := 0) rfl
        have f8_h_0 := o8_h.free 0
        have q8_h_1 := o8_h.cell (i := 1) rfl
        have f8_h_1 := o8_h.free 1
        have q8_h_2 := o8_h.cell (i := 2) rfl
        have f8_h_2 := o8_h.free 2
        have q8_h_3 := o8_h.cell (i := 3) rfl
        have f8_h_3 := o8_h.free 3
        have q8_h_4 := o8_h.cell (i := 4) rfl
        have f8_h_4 := o8_h.free 4
        have q8_h_5 := o8_h.cell (i := 5) rfl
        have f8_h_5 := o8_h.free 5
        have q8_h_6 := o8_h.cell (i := 6) rfl
        have f8_h_6 := o8_h.free 6
        have q8_h_7 := o8_h.cell (i := 7) rfl
        have f8_h_7 := o8_h.free 7
        have q8_h_8 := o8_h.cell (i := 8) rfl
        have f8_h_8 := o8_h.free 8
        have q8_h_9 := o8_h.cell (i := 9) rfl
        have f8_h_9 := o8_h.free 9
        have l8_h := o8_h.lt
        have H8_h := hide o8_h
        clear o8_h
        have q8_five_0 := o8_five.cell (i := 0) rfl
        have q8_five_1 := o8_five.cell (i := 1) rfl
        have q8_five_2 := o8_five.cell (i := 2) rfl
        have l8_five := o8_five.lt
        have H8_five := hide o8_five
        clear o8_five
        have q8_t_0 := o8_t.cell (i := 0) rfl
        have q8_t_1 := o8_t.cell (i := 1) rfl
        have q8_t_2 := o8_t.cell (i := 2) rfl
        have q8_t_3 := o8_t.cell (i := 3) rfl
        have l8_t := o8_t.lt
        have H8_t := hide o8_t
        clear o8_t
        have q8_none_0 := o8_none.cell (i := 0) rfl
        have q8_none_1 := o8_none.cell (i := 1) rfl
        have q8_none_2 := o8_none.cell (i := 2) rfl
        have q8_none_3 := o8_none.cell (i := 3) rfl
        have l8_none := o8_none.lt
        have H8_none := hide o8_none
        clear o8_none
        have hy8 : w.heap.size ≤ w8.heap.size := hB8.size
        clear hb8
        go_wp2
        go_ret
        exact ⟨rfl, by go_grown⟩
      ·
        obtain ⟨_, hov, hs0, hs4⟩ := early_true HBE.out.symm
        subst hov
        have ts : s.toList.isEmpty = false := ba_isEmpty hs0
        have CK : Hid (∀ W, Calls Try.prog 19 #[.agg #[.int .i64 e, .int .i64 k, .int .i64 o], .agg #[.int .i64 u0, .int .i64 u1, .int .i64 u2, .int .i64 u3], .int .i64 now] W fun r w' => r = .returned (.nilIface) ∧ Below W.heap.size W w') := ticketCheck_eq (c := 0) (HTK.out (by first | rfl | trivial))
        go_wp2_with fail
        refine (CK.out _).mono ?_
        rintro e w6 ⟨rfl, hb6⟩
        have hB6 : Below w.heap.size w w6 := by
          refine Below.trans ?_ (Below.mono hb6 ?_)
          · go_grown
          · first | omega | (simp; done) | (simp; omega)
        have o6_r : ObjAt w6 (w.heap.size) 40 [.int .i64 e, .int .i64 k, .int .i64 o] := ObjAt.below (H5_r.out) hb6
        have o6_h : ObjAt w6 (w.heap.size + 1) 54 [.int .i64 a, .int .i64 t0, .int .i64 t1, .int .i64 t2, .int .i64 t3, .int .i64 u0, .int .i64 u1, .int .i64 u2, .int .i64 u3, .string s] := ObjAt.below (H5_h.out) hb6
        have o6_five : ObjAt w6 (w1.heap.size) 40 [.int .i64 0, .int .i64 v5, .int .i64 0] := ObjAt.below (H5_five.out) hb6
        clear q5_r_0 q5_r_1 q5_r_2 H5_r q5_h_0 f5_h_0 q5_h_1 f5_h_1 q5_h_2 f5_h_2 q5_h_3 f5_h_3 q5_h_4 f5_h_4 q5_h_5 f5_h_5 q5_h_6 f5_h_6 q5_h_7 f5_h_7 q5_h_8 f5_h_8 q5_h_9 f5_h_9 H5_h q5_five_0 q5_five_1 q5_five_2 H5_five
        have q6_r_0 := o6_r.cell (i := 0) rfl
        have q6_r_1 := o6_r.cell (i := 1) rfl
        have q6_r_2 := o6_r.cell (i := 2) rfl
        have l6_r := o6_r.lt
        have H6_r := hide o6_r
        clear o6_r
        have q6_h_0 := o6_h.cell (i := 0) rfl
        have f6_h_0 := o6_h.free 0
        have q6_h_1 := o6_h.cell (i := 1) rfl
        have f6_h_1 := o6_h.free 1
        have q6_h_2 := o6_h.cell (i := 2) rfl
        have f6_h_2 := o6_h.free 2
        have q6_h_3 := o6_h.cell (i := 3) rfl
        have f6_h_3 := o6_h.free 3
        have q6_h_4 := o6_h.cell (i := 4) rfl
        have f6_h_4 := o6_h.free 4
        have q6_h_5 := o6_h.cell (i := 5) rfl
        have f6_h_5 := o6_h.free 5
        have q6_h_6 := o6_h.cell (i := 6) rfl
        have f6_h_6 := o6_h.free 6
        have q6_h_7 := o6_h.cell (i := 7) rfl
        have f6_h_7 := o6_h.free 7
        have q6_h_8 := o6_h.cell (i := 8) rfl
        have f6_h_8 := o6_h.free 8
        have q6_h_9 := o6_h.cell (i := 9) rfl
        have f6_h_9 := o6_h.free 9
        have l6_h := o6_h.lt
        have H6_h := hide o6_h
        clear o6_h
        have q6_five_0 := o6_five.cell (i := 0) rfl
        have q6_five_1 := o6_five.cell (i := 1) rfl
        have q6_five_2 := o6_five.cell (i := 2) rfl
        have l6_five := o6_five.lt
        have H6_five := hide o6_five
        clear o6_five
        have hy6 : w.heap.size ≤ w6.heap.size := hB6.size
        clear hb6
        go_wp2_with fail
        refine (MK.out _).mono ?_
        rintro e w7 ⟨rfl, hb7⟩
        have hB7 : Below w.heap.size w w7 := by
          refine Below.trans ?_ (Below.mono hb7 ?_)
          · go_grown
          · first | omega | (simp; done) | (simp; omega)
        have o7_r : ObjAt w7 (w.heap.size) 40 [.int .i64 e, .int .i64 k, .int .i64 o] := ObjAt.below (H6_r.out) hb7
        have o7_h : ObjAt w7 (w.heap.size + 1) 54 [.int .i64 a, .int .i64 t0, .int .i64 t1, .int .i64 t2, .int .i64 t3, .int .i64 u0, .int .i64 u1, .int .i64 u2, .int .i64 u3, .string s] := ObjAt.below (H6_h.out) hb7
        have o7_five : ObjAt w7 (w1.heap.size) 40 [.int .i64 0, .int .i64 v5, .int .i64 0] := ObjAt.below (H6_five.out) hb7
        clear q6_r_0 q6_r_1 q6_r_2 H6_r q6_h_0 f6_h_0 q6_h_1 f6_h_1 q6_h_2 f6_h_2 q6_h_3 f6_h_3 q6_h_4 f6_h_4 q6_h_5 f6_h_5 q6_h_6 f6_h_6 q6_h_7 f6_h_7 q6_h_8 f6_h_8 q6_h_9 f6_h_9 H6_h q6_five_0 q6_five_1 q6_five_2 H6_five
        have q7_r_0 := o7_r.cell (i := 0) rfl
        have q7_r_1 := o7_r.cell (i := 1) rfl
        have q7_r_2 := o7_r.cell (i := 2) rfl
        have l7_r := o7_r.lt
        have H7_r := hide o7_r
        clear o7_r
        have q7_h_0 := o7_h.cell (i := 0) rfl
        have f7_h_0 := o7_h.free 0
        have q7_h_1 := o7_h.cell (i := 1) rfl
        have f7_h_1 := o7_h.free 1
        have q7_h_2 := o7_h.cell (i := 2) rfl
        have f7_h_2 := o7_h.free 2
        have q7_h_3 := o7_h.cell (i := 3) rfl
        have f7_h_3 := o7_h.free 3
        have q7_h_4 := o7_h.cell (i := 4) rfl
        have f7_h_4 := o7_h.free 4
        have q7_h_5 := o7_h.cell (i := 5) rfl
        have f7_h_5 := o7_h.free 5
        have q7_h_6 := o7_h.cell (i := 6) rfl
        have f7_h_6 := o7_h.free 6
        have q7_h_7 := o7_h.cell (i := 7) rfl
        have f7_h_7 := o7_h.free 7
        have q7_h_8 := o7_h.cell (i := 8) rfl
        have f7_h_8 := o7_h.free 8
        have q7_h_9 := o7_h.cell (i := 9) rfl
        have f7_h_9 := o7_h.free 9
        have l7_h := o7_h.lt
        have H7_h := hide o7_h
        clear o7_h
        have q7_five_0 := o7_five.cell (i := 0) rfl
        have q7_five_1 := o7_five.cell (i := 1) rfl
        have q7_five_2 := o7_five.cell (i := 2) rfl
        have l7_five := o7_five.lt
        have H7_five := hide o7_five
        clear o7_five
        have hy7 : w.heap.size ≤ w7.heap.size := hB7.size
        clear hb7
        go_upto_region 19 with (fail)
        obtain ⟨w8, hW8⟩ : ∃ W : World, W = (((((w7.setCell ⟨w.heap.size + 1, 1, none⟩ (.int .i64 e)).setCell ⟨w.heap.size + 1, 2, none⟩ (.int .i64 a)).setCell ⟨w.heap.size + 1, 3, none⟩ (.int .i64 now)).setCell ⟨w.heap.size + 1, 4, none⟩ (.int .i64 g)).alloc (.cells #[.int .i64 e, .int .i64 a, .int .i64 now, .int .i64 g] 52)).alloc (.cells #[.int .i64 0, .int .i64 0, .int .i64 0, .int .i64 0] 52) := ⟨_, rfl⟩
        have hB8 : Below w.heap.size w w8 := by rw [hW8]; go_grown
        have o8_r : ObjAt w8 (w.heap.size) 40 [.int .i64 e, .int .i64 k, .int .i64 o] := by rw [hW8]; exact ObjAt.alloc (ObjAt.alloc (ObjAt.setOther (ObjAt.setOther (ObjAt.setOther (ObjAt.setOther (H7_r.out) (by first | omega | (simp <;> omega)) _) (by first | omega | (simp <;> omega)) _) (by first | omega | (simp <;> omega)) _) (by first | omega | (simp <;> omega)) _) _) _
        have o8_h : ObjAt w8 (w.heap.size + 1) 54 [.int .i64 a, .int .i64 e, .int .i64 a, .int .i64 now, .int .i64 g, .int .i64 u0, .int .i64 u1, .int .i64 u2, .int .i64 u3, .string s] := by rw [hW8]; exact ObjAt.alloc (ObjAt.alloc (ObjAt.set (ObjAt.set (ObjAt.set (ObjAt.set (H7_h.out) 1 _) 2 _) 3 _) 4 _) _) _
        have o8_five : ObjAt w8 (w1.heap.size) 40 [.int .i64 0, .int .i64 v5, .int .i64 0] := by rw [hW8]; exact ObjAt.alloc (ObjAt.alloc (ObjAt.setOther (ObjAt.setOther (ObjAt.setOther (ObjAt.setOther (H7_five.out) (by first | omega | (simp <;> omega)) _) (by first | omega | (simp <;> omega)) _) (by first | omega | (simp <;> omega)) _) (by first | omega | (simp <;> omega)) _) _) _
        have o8_t : ObjAt w8 (w7.heap.size) 52 [.int .i64 e, .int .i64 a, .int .i64 now, .int .i64 g] := by rw [hW8]; exact ObjAt.alloc (objNew (by simp)) _
        have o8_none : ObjAt w8 (w7.heap.size + 1) 52 [.int .i64 0, .int .i64 0, .int .i64 0, .int .i64 0] := by rw [hW8]; exact objNew (by simp)
        rw [← hW8]
        clear hW8
        clear q7_r_0 q7_r_1 q7_r_2 H7_r q7_h_0 f7_h_0 q7_h_1 f7_h_1 q7_h_2 f7_h_2 q7_h_3 f7_h_3 q7_h_4 f7_h_4 q7_h_5 f7_h_5 q7_h_6 f7_h_6 q7_h_7 f7_h_7 q7_h_8 f7_h_8 q7_h_9 f7_h_9 H7_h q7_five_0 q7_five_1 q7_five_2 H7_five
        have q8_r_0 := o8_r.cell (i := 0) rfl
        have q8_r_1 := o8_r.cell (i := 1) rfl
        have q8_r_2 := o8_r.cell (i := 2) rfl
        have l8_r := o8_r.lt
        have H8_r := hide o8_r
        clear o8_r
        have q8_h_0 := o8_h.cell (i := 0) rfl
        have f8_h_0 := o8_h.free 0
        have q8_h_1 := o8_h.cell (i := 1) rfl
        have f8_h_1 := o8_h.free 1
        have q8_h_2 := o8_h.cell (i := 2) rfl
        have f8_h_2 := o8_h.free 2
        have q8_h_3 := o8_h.cell (i := 3) rfl
        have f8_h_3 := o8_h.free 3
        have q8_h_4 := o8_h.cell (i := 4) rfl
        have f8_h_4 := o8_h.free 4
        have q8_h_5 := o8_h.cell (i := 5) rfl
        have f8_h_5 := o8_h.free 5
        have q8_h_6 := o8_h.cell (i := 6) rfl
        have f8_h_6 := o8_h.free 6
        have q8_h_7 := o8_h.cell (i := 7) rfl
        have f8_h_7 := o8_h.free 7
        have q8_h_8 := o8_h.cell (i := 8) rfl
        have f8_h_8 := o8_h.free 8
        have q8_h_9 := o8_h.cell (i := 9) rfl
        have f8_h_9 := o8_h.free 9
        have l8_h := o8_h.lt
        have H8_h := hide o8_h
        clear o8_h
        have q8_five_0 := o8_five.cell (i := 0) rfl
        have q8_five_1 := o8_five.cell (i := 1) rfl
        have q8_five_2 := o8_five.cell (i := 2) rfl
        have l8_five := o8_five.lt
        have H8_five := hide o8_five
        clear o8_five
        have q8_t_0 := o8_t.cell (i := 0) rfl
        have q8_t_1 := o8_t.cell (i := 1) rfl
        have q8_t_2 := o8_t.cell (i := 2) rfl
        have q8_t_3 := o8_t.cell (i := 3) rfl
        have l8_t := o8_t.lt
        have H8_t := hide o8_t
        clear o8_t
        have q8_none_0 := o8_none.cell (i := 0) rfl
        have q8_none_1 := o8_none.cell (i := 1) rfl
        have q8_none_2 := o8_none.cell (i := 2) rfl
        have q8_none_3 := o8_none.cell (i := 3) rfl
        have l8_none := o8_none.lt
        have H8_none := hide o8_none
        clear o8_none
        have hy8 : w.heap.size ≤ w8.heap.size := hB8.size
        have AA := hide (A2H.out 1 (by unfold needsOf; rw [if_neg (by omega), if_neg (by omega), if_neg (by omega)]))
        go_wp2_with fail
        refine (AA.out _).mono ?_
        rintro e w9 ⟨rfl, hb9⟩
        have hB9 : Below w.heap.size w w9 := by
          refine Below.trans ?_ (Below.mono hb9 ?_)
          · go_grown
          · first | omega | (simp; done) | (simp; omega)
        have o9_r : ObjAt w9 (w.heap.size) 40 [.int .i64 e, .int .i64 k, .int .i64 o] := ObjAt.below (H8_r.out) hb9
        have o9_h : ObjAt w9 (w.heap.size + 1) 54 [.int .i64 a, .int .i64 e, .int .i64 a, .int .i64 now, .int .i64 g, .int .i64 u0, .int .i64 u1, .int .i64 u2, .int .i64 u3, .string s] := ObjAt.below (H8_h.out) hb9
        have o9_five : ObjAt w9 (w1.heap.size) 40 [.int .i64 0, .int .i64 v5, .int .i64 0] := ObjAt.below (H8_five.out) hb9
        have o9_t : ObjAt w9 (w7.heap.size) 52 [.int .i64 e, .int .i64 a, .int .i64 now, .int .i64 g] := ObjAt.below (H8_t.out) hb9
        have o9_none : ObjAt w9 (w7.heap.size + 1) 52 [.int .i64 0, .int .i64 0, .int .i64 0, .int .i64 0] := ObjAt.below (H8_none.out) hb9
        clear q8_r_0 q8_r_1 q8_r_2 H8_r q8_h_0 f8_h_0 q8_h_1 f8_h_1 q8_h_2 f8_h_2 q8_h_3 f8_h_3 q8_h_4 f8_h_4 q8_h_5 f8_h_5 q8_h_6 f8_h_6 q8_h_7 f8_h_7 q8_h_8 f8_h_8 q8_h_9 f8_h_9 H8_h q8_five_0 q8_five_1 q8_five_2 H8_five q8_t_0 q8_t_1 q8_t_2 q8_t_3 H8_t q8_none_0 q8_none_1 q8_none_2 q8_none_3 H8_none
        have q9_r_0 := o9_r.cell (i := 0) rfl
        have q9_r_1 := o9_r.cell (i := 1) rfl
        have q9_r_2 := o9_r.cell (i := 2) rfl
        have l9_r := o9_r.lt
        have H9_r := hide o9_r
        clear o9_r
        have q9_h_0 := o9_h.cell (i := 0) rfl
        have f9_h_0 := o9_h.free 0
        have q9_h_1 := o9_h.cell (i := 1) rfl
        have f9_h_1 := o9_h.free 1
        have q9_h_2 := o9_h.cell (i := 2) rfl
        have f9_h_2 := o9_h.free 2
        have q9_h_3 := o9_h.cell (i := 3) rfl
        have f9_h_3 := o9_h.free 3
        have q9_h_4 := o9_h.cell (i := 4) rfl
        have f9_h_4 := o9_h.free 4
        have q9_h_5 := o9_h.cell (i := 5) rfl
        have f9_h_5 := o9_h.free 5
        have q9_h_6 := o9_h.cell (i := 6) rfl
        have f9_h_6 := o9_h.free 6
        have q9_h_7 := o9_h.cell (i := 7) rfl
        have f9_h_7 := o9_h.free 7
        have q9_h_8 := o9_h.cell (i := 8) rfl
        have f9_h_8 := o9_h.free 8
        have q9_h_9 := o9_h.cell (i := 9) rfl
        have f9_h_9 := o9_h.free 9
        have l9_h := o9_h.lt
        have H9_h := hide o9_h
        clear o9_h
        have q9_five_0 := o9_five.cell (i := 0) rfl
        have q9_five_1 := o9_five.cell (i := 1) rfl
        have q9_five_2 := o9_five.cell (i := 2) rfl
        have l9_five := o9_five.lt
        have H9_five := hide o9_five
        clear o9_five
        have q9_t_0 := o9_t.cell (i := 0) rfl
        have q9_t_1 := o9_t.cell (i := 1) rfl
        have q9_t_2 := o9_t.cell (i := 2) rfl
        have q9_t_3 := o9_t.cell (i := 3) rfl
        have l9_t := o9_t.lt
        have H9_t := hide o9_t
        clear o9_t
        have q9_none_0 := o9_none.cell (i := 0) rfl
        have q9_none_1 := o9_none.cell (i := 1) rfl
        have q9_none_2 := o9_none.cell (i := 2) rfl
        have q9_none_3 := o9_none.cell (i := 3) rfl
        have l9_none := o9_none.lt
        have H9_none := hide o9_none
        clear o9_none
        have hy9 : w.heap.size ≤ w9.heap.size := hB9.size
        clear hb9
        go_wp2
        go_ret
        exact ⟨rfl, by go_grown⟩
    ·
      go_wp2_with fail
      refine (CT.out _).mono ?_
      rintro e w5 ⟨rfl, hb5⟩
      have hB5 : Below w.heap.size w w5 := by
        refine Below.trans ?_ (Below.mono hb5 ?_)
        · go_grown
        · first | omega | (simp; done) | (simp; omega)
      have o5_r : ObjAt w5 (w.heap.size) 40 [.int .i64 e, .int .i64 k, .int .i64 o] := ObjAt.below (H4_r.out) hb5
      have o5_h : ObjAt w5 (w.heap.size + 1) 54 [.int .i64 a, .int .i64 t0, .int .i64 t1, .int .i64 t2, .int .i64 t3, .int .i64 u0, .int .i64 u1, .int .i64 u2, .int .i64 u3, .string s] := ObjAt.below (H4_h.out) hb5
      have o5_five : ObjAt w5 (w1.heap.size) 40 [.int .i64 0, .int .i64 v5, .int .i64 0] := ObjAt.below (H4_five.out) hb5
      clear q4_r_0 q4_r_1 q4_r_2 H4_r q4_h_0 f4_h_0 q4_h_1 f4_h_1 q4_h_2 f4_h_2 q4_h_3 f4_h_3 q4_h_4 f4_h_4 q4_h_5 f4_h_5 q4_h_6 f4_h_6 q4_h_7 f4_h_7 q4_h_8 f4_h_8 q4_h_9 f4_h_9 H4_h q4_five_0 q4_five_1 q4_five_2 H4_five
      have q5_r_0 := o5_r.cell (i := 0) rfl
      have q5_r_1 := o5_r.cell (i := 1) rfl
      have q5_r_2 := o5_r.cell (i := 2) rfl
      have l5_r := o5_r.lt
      have H5_r := hide o5_r
      clear o5_r
      have q5_h_0 := o5_h.cell (i := 0) rfl
      have f5_h_0 := o5_h.free 0
      have q5_h_1 := o5_h.cell (i := 1) rfl
      have f5_h_1 := o5_h.free 1
      have q5_h_2 := o5_h.cell (i := 2) rfl
      have f5_h_2 := o5_h.free 2
      have q5_h_3 := o5_h.cell (i := 3) rfl
      have f5_h_3 := o5_h.free 3
      have q5_h_4 := o5_h.cell (i := 4) rfl
      have f5_h_4 := o5_h.free 4
      have q5_h_5 := o5_h.cell (i := 5) rfl
      have f5_h_5 := o5_h.free 5
      have q5_h_6 := o5_h.cell (i := 6) rfl
      have f5_h_6 := o5_h.free 6
      have q5_h_7 := o5_h.cell (i := 7) rfl
      have f5_h_7 := o5_h.free 7
      have q5_h_8 := o5_h.cell (i := 8) rfl
      have f5_h_8 := o5_h.free 8
      have q5_h_9 := o5_h.cell (i := 9) rfl
      have f5_h_9 := o5_h.free 9
      have l5_h := o5_h.lt
      have H5_h := hide o5_h
      clear o5_h
      have q5_five_0 := o5_five.cell (i := 0) rfl
      have q5_five_1 := o5_five.cell (i := 1) rfl
      have q5_five_2 := o5_five.cell (i := 2) rfl
      have l5_five := o5_five.lt
      have H5_five := hide o5_five
      clear o5_five
      have hy5 : w.heap.size ≤ w5.heap.size := hB5.size
      clear hb5
      cases b
      ·
        go_wp2_with fail
        refine (MK.out _).mono ?_
        rintro e w6 ⟨rfl, hb6⟩
        have hB6 : Below w.heap.size w w6 := by
          refine Below.trans ?_ (Below.mono hb6 ?_)
          · go_grown
          · first | omega | (simp; done) | (simp; omega)
        have o6_r : ObjAt w6 (w.heap.size) 40 [.int .i64 e, .int .i64 k, .int .i64 o] := ObjAt.below (H5_r.out) hb6
        have o6_h : ObjAt w6 (w.heap.size + 1) 54 [.int .i64 a, .int .i64 t0, .int .i64 t1, .int .i64 t2, .int .i64 t3, .int .i64 u0, .int .i64 u1, .int .i64 u2, .int .i64 u3, .string s] := ObjAt.below (H5_h.out) hb6
        have o6_five : ObjAt w6 (w1.heap.size) 40 [.int .i64 0, .int .i64 v5, .int .i64 0] := ObjAt.below (H5_five.out) hb6
        clear q5_r_0 q5_r_1 q5_r_2 H5_r q5_h_0 f5_h_0 q5_h_1 f5_h_1 q5_h_2 f5_h_2 q5_h_3 f5_h_3 q5_h_4 f5_h_4 q5_h_5 f5_h_5 q5_h_6 f5_h_6 q5_h_7 f5_h_7 q5_h_8 f5_h_8 q5_h_9 f5_h_9 H5_h q5_five_0 q5_five_1 q5_five_2 H5_five
        have q6_r_0 := o6_r.cell (i := 0) rfl
        have q6_r_1 := o6_r.cell (i := 1) rfl
        have q6_r_2 := o6_r.cell (i := 2) rfl
        have l6_r := o6_r.lt
        have H6_r := hide o6_r
        clear o6_r
        have q6_h_0 := o6_h.cell (i := 0) rfl
        have f6_h_0 := o6_h.free 0
        have q6_h_1 := o6_h.cell (i := 1) rfl
        have f6_h_1 := o6_h.free 1
        have q6_h_2 := o6_h.cell (i := 2) rfl
        have f6_h_2 := o6_h.free 2
        have q6_h_3 := o6_h.cell (i := 3) rfl
        have f6_h_3 := o6_h.free 3
        have q6_h_4 := o6_h.cell (i := 4) rfl
        have f6_h_4 := o6_h.free 4
        have q6_h_5 := o6_h.cell (i := 5) rfl
        have f6_h_5 := o6_h.free 5
        have q6_h_6 := o6_h.cell (i := 6) rfl
        have f6_h_6 := o6_h.free 6
        have q6_h_7 := o6_h.cell (i := 7) rfl
        have f6_h_7 := o6_h.free 7
        have q6_h_8 := o6_h.cell (i := 8) rfl
        have f6_h_8 := o6_h.free 8
        have q6_h_9 := o6_h.cell (i := 9) rfl
        have f6_h_9 := o6_h.free 9
        have l6_h := o6_h.lt
        have H6_h := hide o6_h
        clear o6_h
        have q6_five_0 := o6_five.cell (i := 0) rfl
        have q6_five_1 := o6_five.cell (i := 1) rfl
        have q6_five_2 := o6_five.cell (i := 2) rfl
        have l6_five := o6_five.lt
        have H6_five := hide o6_five
        clear o6_five
        have hy6 : w.heap.size ≤ w6.heap.size := hB6.size
        clear hb6
        go_upto_region 19 with (fail)
        obtain ⟨w7, hW7⟩ : ∃ W : World, W = (((((w6.setCell ⟨w.heap.size + 1, 1, none⟩ (.int .i64 e)).setCell ⟨w.heap.size + 1, 2, none⟩ (.int .i64 a)).setCell ⟨w.heap.size + 1, 3, none⟩ (.int .i64 now)).setCell ⟨w.heap.size + 1, 4, none⟩ (.int .i64 g)).alloc (.cells #[.int .i64 e, .int .i64 a, .int .i64 now, .int .i64 g] 52)).alloc (.cells #[.int .i64 0, .int .i64 0, .int .i64 0, .int .i64 0] 52) := ⟨_, rfl⟩
        have hB7 : Below w.heap.size w w7 := by rw [hW7]; go_grown
        have o7_r : ObjAt w7 (w.heap.size) 40 [.int .i64 e, .int .i64 k, .int .i64 o] := by rw [hW7]; exact ObjAt.alloc (ObjAt.alloc (ObjAt.setOther (ObjAt.setOther (ObjAt.setOther (ObjAt.setOther (H6_r.out) (by first | omega | (simp <;> omega)) _) (by first | omega | (simp <;> omega)) _) (by first | omega | (simp <;> omega)) _) (by first | omega | (simp <;> omega)) _) _) _
        have o7_h : ObjAt w7 (w.heap.size + 1) 54 [.int .i64 a, .int .i64 e, .int .i64 a, .int .i64 now, .int .i64 g, .int .i64 u0, .int .i64 u1, .int .i64 u2, .int .i64 u3, .string s] := by rw [hW7]; exact ObjAt.alloc (ObjAt.alloc (ObjAt.set (ObjAt.set (ObjAt.set (ObjAt.set (H6_h.out) 1 _) 2 _) 3 _) 4 _) _) _
        have o7_five : ObjAt w7 (w1.heap.size) 40 [.int .i64 0, .int .i64 v5, .int .i64 0] := by rw [hW7]; exact ObjAt.alloc (ObjAt.alloc (ObjAt.setOther (ObjAt.setOther (ObjAt.setOther (ObjAt.setOther (H6_five.out) (by first | omega | (simp <;> omega)) _) (by first | omega | (simp <;> omega)) _) (by first | omega | (simp <;> omega)) _) (by first | omega | (simp <;> omega)) _) _) _
        have o7_t : ObjAt w7 (w6.heap.size) 52 [.int .i64 e, .int .i64 a, .int .i64 now, .int .i64 g] := by rw [hW7]; exact ObjAt.alloc (objNew (by simp)) _
        have o7_none : ObjAt w7 (w6.heap.size + 1) 52 [.int .i64 0, .int .i64 0, .int .i64 0, .int .i64 0] := by rw [hW7]; exact objNew (by simp)
        rw [← hW7]
        clear hW7
        clear q6_r_0 q6_r_1 q6_r_2 H6_r q6_h_0 f6_h_0 q6_h_1 f6_h_1 q6_h_2 f6_h_2 q6_h_3 f6_h_3 q6_h_4 f6_h_4 q6_h_5 f6_h_5 q6_h_6 f6_h_6 q6_h_7 f6_h_7 q6_h_8 f6_h_8 q6_h_9 f6_h_9 H6_h q6_five_0 q6_five_1 q6_five_2 H6_five
        have q7_r_0 := o7_r.cell (i := 0) rfl
        have q7_r_1 := o7_r.cell (i := 1) rfl
        have q7_r_2 := o7_r.cell (i := 2) rfl
        have l7_r := o7_r.lt
        have H7_r := hide o7_r
        clear o7_r
        have q7_h_0 := o7_h.cell (i := 0) rfl
        have f7_h_0 := o7_h.free 0
        have q7_h_1 := o7_h.cell (i := 1) rfl
        have f7_h_1 := o7_h.free 1
        have q7_h_2 := o7_h.cell (i := 2) rfl
        have f7_h_2 := o7_h.free 2
        have q7_h_3 := o7_h.cell (i := 3) rfl
        have f7_h_3 := o7_h.free 3
        have q7_h_4 := o7_h.cell (i := 4) rfl
        have f7_h_4 := o7_h.free 4
        have q7_h_5 := o7_h.cell (i := 5) rfl
        have f7_h_5 := o7_h.free 5
        have q7_h_6 := o7_h.cell (i := 6) rfl
        have f7_h_6 := o7_h.free 6
        have q7_h_7 := o7_h.cell (i := 7) rfl
        have f7_h_7 := o7_h.free 7
        have q7_h_8 := o7_h.cell (i := 8) rfl
        have f7_h_8 := o7_h.free 8
        have q7_h_9 := o7_h.cell (i := 9) rfl
        have f7_h_9 := o7_h.free 9
        have l7_h := o7_h.lt
        have H7_h := hide o7_h
        clear o7_h
        have q7_five_0 := o7_five.cell (i := 0) rfl
        have q7_five_1 := o7_five.cell (i := 1) rfl
        have q7_five_2 := o7_five.cell (i := 2) rfl
        have l7_five := o7_five.lt
        have H7_five := hide o7_five
        clear o7_five
        have q7_t_0 := o7_t.cell (i := 0) rfl
        have q7_t_1 := o7_t.cell (i := 1) rfl
        have q7_t_2 := o7_t.cell (i := 2) rfl
        have q7_t_3 := o7_t.cell (i := 3) rfl
        have l7_t := o7_t.lt
        have H7_t := hide o7_t
        clear o7_t
        have q7_none_0 := o7_none.cell (i := 0) rfl
        have q7_none_1 := o7_none.cell (i := 1) rfl
        have q7_none_2 := o7_none.cell (i := 2) rfl
        have q7_none_3 := o7_none.cell (i := 3) rfl
        have l7_none := o7_none.lt
        have H7_none := hide o7_none
        clear o7_none
        have hy7 : w.heap.size ≤ w7.heap.size := hB7.size
        have AA := hide (A2H.out 1 (by unfold needsOf; rw [if_neg (by omega), if_neg (by omega), if_neg (by simp)]))
        go_wp2_with fail
        refine (AA.out _).mono ?_
        rintro e w8 ⟨rfl, hb8⟩
        have hB8 : Below w.heap.size w w8 := by
          refine Below.trans ?_ (Below.mono hb8 ?_)
          · go_grown
          · first | omega | (simp; done) | (simp; omega)
        have o8_r : ObjAt w8 (w.heap.size) 40 [.int .i64 e, .int .i64 k, .int .i64 o] := ObjAt.below (H7_r.out) hb8
        have o8_h : ObjAt w8 (w.heap.size + 1) 54 [.int .i64 a, .int .i64 e, .int .i64 a, .int .i64 now, .int .i64 g, .int .i64 u0, .int .i64 u1, .int .i64 u2, .int .i64 u3, .string s] := ObjAt.below (H7_h.out) hb8
        have o8_five : ObjAt w8 (w1.heap.size) 40 [.int .i64 0, .int .i64 v5, .int .i64 0] := ObjAt.below (H7_five.out) hb8
        have o8_t : ObjAt w8 (w6.heap.size) 52 [.int .i64 e, .int .i64 a, .int .i64 now, .int .i64 g] := ObjAt.below (H7_t.out) hb8
        have o8_none : ObjAt w8 (w6.heap.size + 1) 52 [.int .i64 0, .int .i64 0, .int .i64 0, .int .i64 0] := ObjAt.below (H7_none.out) hb8
        clear q7_r_0 q7_r_1 q7_r_2 H7_r q7_h_0 f7_h_0 q7_h_1 f7_h_1 q7_h_2 f7_h_2 q7_h_3 f7_h_3 q7_h_4 f7_h_4 q7_h_5 f7_h_5 q7_h_6 f7_h_6 q7_h_7 f7_h_7 q7_h_8 f7_h_8 q7_h_9 f7_h_9 H7_h q7_five_0 q7_five_1 q7_five_2 H7_five q7_t_0 q7_t_1 q7_t_2 q7_t_3 H7_t q7_none_0 q7_none_1 q7_none_2 q7_none_3 H7_none
        have q8_r_0 := o8_r.cell (i := 0) rfl
        have q8_r_1 := o8_r.cell (i := 1) rfl
        have q8_r_2 := o8_r.cell (i := 2) rfl
        have l8_r := o8_r.lt
        have H8_r := hide o8_r
        clear o8_r
        have q8_h_0 := o8_h.cell (i := 0) rfl
        have f8_h_0 := o8_h.free 0
        have q8_h_1 := o8_h.cell (i := 1) rfl
        have f8_h_1 := o8_h.free 1
        have q8_h_2 := o8_h.cell (i := 2) rfl
        have f8_h_2 := o8_h.free 2
        have q8_h_3 := o8_h.cell (i := 3) rfl
        have f8_h_3 := o8_h.free 3
        have q8_h_4 := o8_h.cell (i := 4) rfl
        have f8_h_4 := o8_h.free 4
        have q8_h_5 := o8_h.cell (i := 5) rfl
        have f8_h_5 := o8_h.free 5
        have q8_h_6 := o8_h.cell (i := 6) rfl
        have f8_h_6 := o8_h.free 6
        have q8_h_7 := o8_h.cell (i := 7) rfl
        have f8_h_7 := o8_h.free 7
        have q8_h_8 := o8_h.cell (i := 8) rfl
        have f8_h_8 := o8_h.free 8
        have q8_h_9 := o8_h.cell (i := 9) rfl
        have f8_h_9 := o8_h.free 9
        have l8_h := o8_h.lt
        have H8_h := hide o8_h
        clear o8_h
        have q8_five_0 := o8_five.cell (i := 0) rfl
        have q8_five_1 := o8_five.cell (i := 1) rfl
        have q8_five_2 := o8_five.cell (i := 2) rfl
        have l8_five := o8_five.lt
        have H8_five := hide o8_five
        clear o8_five
        have q8_t_0 := o8_t.cell (i := 0) rfl
        have q8_t_1 := o8_t.cell (i := 1) rfl
        have q8_t_2 := o8_t.cell (i := 2) rfl
        have q8_t_3 := o8_t.cell (i := 3) rfl
        have l8_t := o8_t.lt
        have H8_t := hide o8_t
        clear o8_t
        have q8_none_0 := o8_none.cell (i := 0) rfl
        have q8_none_1 := o8_none.cell (i := 1) rfl
        have q8_none_2 := o8_none.cell (i := 2) rfl
        have q8_none_3 := o8_none.cell (i := 3) rfl
        have l8_none := o8_none.lt
        have H8_none := hide o8_none
        clear o8_none
        have hy8 : w.heap.size ≤ w8.heap.size := hB8.size
        clear hb8
        go_wp2
        go_ret
        exact ⟨rfl, by go_grown⟩
      ·
        obtain ⟨_, hov, hs0, hs4⟩ := early_true HBE.out.symm
        clear hov
        have ts : s.toList.isEmpty = false := ba_isEmpty hs0
        have CK : Hid (∀ W, Calls Try.prog 19 #[.agg #[.int .i64 e, .int .i64 k, .int .i64 o], .agg #[.int .i64 u0, .int .i64 u1, .int .i64 u2, .int .i64 u3], .int .i64 now] W fun r w' => r = .returned (.nilIface) ∧ Below W.heap.size W w') := ticketCheck_eq (c := 0) (HTK.out (by first | rfl | trivial))
        go_wp2_with fail
        refine (CK.out _).mono ?_
        rintro e w6 ⟨rfl, hb6⟩
        have hB6 : Below w.heap.size w w6 := by
          refine Below.trans ?_ (Below.mono hb6 ?_)
          · go_grown
          · first | omega | (simp; done) | (simp; omega)
        have o6_r : ObjAt w6 (w.heap.size) 40 [.int .i64 e, .int .i64 k, .int .i64 o] := ObjAt.below (H5_r.out) hb6
        have o6_h : ObjAt w6 (w.heap.size + 1) 54 [.int .i64 a, .int .i64 t0, .int .i64 t1, .int .i64 t2, .int .i64 t3, .int .i64 u0, .int .i64 u1, .int .i64 u2, .int .i64 u3, .string s] := ObjAt.below (H5_h.out) hb6
        have o6_five : ObjAt w6 (w1.heap.size) 40 [.int .i64 0, .int .i64 v5, .int .i64 0] := ObjAt.below (H5_five.out) hb6
        clear q5_r_0 q5_r_1 q5_r_2 H5_r q5_h_0 f5_h_0 q5_h_1 f5_h_1 q5_h_2 f5_h_2 q5_h_3 f5_h_3 q5_h_4 f5_h_4 q5_h_5 f5_h_5 q5_h_6 f5_h_6 q5_h_7 f5_h_7 q5_h_8 f5_h_8 q5_h_9 f5_h_9 H5_h q5_five_0 q5_five_1 q5_five_2 H5_five
        have q6_r_0 := o6_r.cell (i := 0) rfl
        have q6_r_1 := o6_r.cell (i := 1) rfl
        have q6_r_2 := o6_r.cell (i := 2) rfl
        have l6_r := o6_r.lt
        have H6_r := hide o6_r
        clear o6_r
        have q6_h_0 := o6_h.cell (i := 0) rfl
        have f6_h_0 := o6_h.free 0
        have q6_h_1 := o6_h.cell (i := 1) rfl
        have f6_h_1 := o6_h.free 1
        have q6_h_2 := o6_h.cell (i := 2) rfl
        have f6_h_2 := o6_h.free 2
        have q6_h_3 := o6_h.cell (i := 3) rfl
        have f6_h_3 := o6_h.free 3
        have q6_h_4 := o6_h.cell (i := 4) rfl
        have f6_h_4 := o6_h.free 4
        have q6_h_5 := o6_h.cell (i := 5) rfl
        have f6_h_5 := o6_h.free 5
        have q6_h_6 := o6_h.cell (i := 6) rfl
        have f6_h_6 := o6_h.free 6
        have q6_h_7 := o6_h.cell (i := 7) rfl
        have f6_h_7 := o6_h.free 7
        have q6_h_8 := o6_h.cell (i := 8) rfl
        have f6_h_8 := o6_h.free 8
        have q6_h_9 := o6_h.cell (i := 9) rfl
        have f6_h_9 := o6_h.free 9
        have l6_h := o6_h.lt
        have H6_h := hide o6_h
        clear o6_h
        have q6_five_0 := o6_five.cell (i := 0) rfl
        have q6_five_1 := o6_five.cell (i := 1) rfl
        have q6_five_2 := o6_five.cell (i := 2) rfl
        have l6_five := o6_five.lt
        have H6_five := hide o6_five
        clear o6_five
        have hy6 : w.heap.size ≤ w6.heap.size := hB6.size
        clear hb6
        go_wp2_with fail
        refine (MK.out _).mono ?_
        rintro e w7 ⟨rfl, hb7⟩
        have hB7 : Below w.heap.size w w7 := by
          refine Below.trans ?_ (Below.mono hb7 ?_)
          · go_grown
          · first | omega | (simp; done) | (simp; omega)
        have o7_r : ObjAt w7 (w.heap.size) 40 [.int .i64 e, .int .i64 k, .int .i64 o] := ObjAt.below (H6_r.out) hb7
        have o7_h : ObjAt w7 (w.heap.size + 1) 54 [.int .i64 a, .int .i64 t0, .int .i64 t1, .int .i64 t2, .int .i64 t3, .int .i64 u0, .int .i64 u1, .int .i64 u2, .int .i64 u3, .string s] := ObjAt.below (H6_h.out) hb7
        have o7_five : ObjAt w7 (w1.heap.size) 40 [.int .i64 0, .int .i64 v5, .int .i64 0] := ObjAt.below (H6_five.out) hb7
        clear q6_r_0 q6_r_1 q6_r_2 H6_r q6_h_0 f6_h_0 q6_h_1 f6_h_1 q6_h_2 f6_h_2 q6_h_3 f6_h_3 q6_h_4 f6_h_4 q6_h_5 f6_h_5 q6_h_6 f6_h_6 q6_h_7 f6_h_7 q6_h_8 f6_h_8 q6_h_9 f6_h_9 H6_h q6_five_0 q6_five_1 q6_five_2 H6_five
        have q7_r_0 := o7_r.cell (i := 0) rfl
        have q7_r_1 := o7_r.cell (i := 1) rfl
        have q7_r_2 := o7_r.cell (i := 2) rfl
        have l7_r := o7_r.lt
        have H7_r := hide o7_r
        clear o7_r
        have q7_h_0 := o7_h.cell (i := 0) rfl
        have f7_h_0 := o7_h.free 0
        have q7_h_1 := o7_h.cell (i := 1) rfl
        have f7_h_1 := o7_h.free 1
        have q7_h_2 := o7_h.cell (i := 2) rfl
        have f7_h_2 := o7_h.free 2
        have q7_h_3 := o7_h.cell (i := 3) rfl
        have f7_h_3 := o7_h.free 3
        have q7_h_4 := o7_h.cell (i := 4) rfl
        have f7_h_4 := o7_h.free 4
        have q7_h_5 := o7_h.cell (i := 5) rfl
        have f7_h_5 := o7_h.free 5
        have q7_h_6 := o7_h.cell (i := 6) rfl
        have f7_h_6 := o7_h.free 6
        have q7_h_7 := o7_h.cell (i := 7) rfl
        have f7_h_7 := o7_h.free 7
        have q7_h_8 := o7_h.cell (i := 8) rfl
        have f7_h_8 := o7_h.free 8
        have q7_h_9 := o7_h.cell (i := 9) rfl
        have f7_h_9 := o7_h.free 9
        have l7_h := o7_h.lt
        have H7_h := hide o7_h
        clear o7_h
        have q7_five_0 := o7_five.cell (i := 0) rfl
        have q7_five_1 := o7_five.cell (i := 1) rfl
        have q7_five_2 := o7_five.cell (i := 2) rfl
        have l7_five := o7_five.lt
        have H7_five := hide o7_five
        clear o7_five
        have hy7 : w.heap.size ≤ w7.heap.size := hB7.size
        clear hb7
        go_upto_region 19 with (fail)
        obtain ⟨w8, hW8⟩ : ∃ W : World, W = (((((w7.setCell ⟨w.heap.size + 1, 1, none⟩ (.int .i64 e)).setCell ⟨w.heap.size + 1, 2, none⟩ (.int .i64 a)).setCell ⟨w.heap.size + 1, 3, none⟩ (.int .i64 now)).setCell ⟨w.heap.size + 1, 4, none⟩ (.int .i64 g)).alloc (.cells #[.int .i64 e, .int .i64 a, .int .i64 now, .int .i64 g] 52)).alloc (.cells #[.int .i64 0, .int .i64 0, .int .i64 0, .int .i64 0] 52) := ⟨_, rfl⟩
        have hB8 : Below w.heap.size w w8 := by rw [hW8]; go_grown
        have o8_r : ObjAt w8 (w.heap.size) 40 [.int .i64 e, .int .i64 k, .int .i64 o] := by rw [hW8]; exact ObjAt.alloc (ObjAt.alloc (ObjAt.setOther (ObjAt.setOther (ObjAt.setOther (ObjAt.setOther (H7_r.out) (by first | omega | (simp <;> omega)) _) (by first | omega | (simp <;> omega)) _) (by first | omega | (simp <;> omega)) _) (by first | omega | (simp <;> omega)) _) _) _
        have o8_h : ObjAt w8 (w.heap.size + 1) 54 [.int .i64 a, .int .i64 e, .int .i64 a, .int .i64 now, .int .i64 g, .int .i64 u0, .int .i64 u1, .int .i64 u2, .int .i64 u3, .string s] := by rw [hW8]; exact ObjAt.alloc (ObjAt.alloc (ObjAt.set (ObjAt.set (ObjAt.set (ObjAt.set (H7_h.out) 1 _) 2 _) 3 _) 4 _) _) _
        have o8_five : ObjAt w8 (w1.heap.size) 40 [.int .i64 0, .int .i64 v5, .int .i64 0] := by rw [hW8]; exact ObjAt.alloc (ObjAt.alloc (ObjAt.setOther (ObjAt.setOther (ObjAt.setOther (ObjAt.setOther (H7_five.out) (by first | omega | (simp <;> omega)) _) (by first | omega | (simp <;> omega)) _) (by first | omega | (simp <;> omega)) _) (by first | omega | (simp <;> omega)) _) _) _
        have o8_t : ObjAt w8 (w7.heap.size) 52 [.int .i64 e, .int .i64 a, .int .i64 now, .int .i64 g] := by rw [hW8]; exact ObjAt.alloc (objNew (by simp)) _
        have o8_none : ObjAt w8 (w7.heap.size + 1) 52 [.int .i64 0, .int .i64 0, .int .i64 0, .int .i64 0] := by rw [hW8]; exact objNew (by simp)
        rw [← hW8]
        clear hW8
        clear q7_r_0 q7_r_1 q7_r_2 H7_r q7_h_0 f7_h_0 q7_h_1 f7_h_1 q7_h_2 f7_h_2 q7_h_3 f7_h_3 q7_h_4 f7_h_4 q7_h_5 f7_h_5 q7_h_6 f7_h_6 q7_h_7 f7_h_7 q7_h_8 f7_h_8 q7_h_9 f7_h_9 H7_h q7_five_0 q7_five_1 q7_five_2 H7_five
        have q8_r_0 := o8_r.cell (i := 0) rfl
        have q8_r_1 := o8_r.cell (i := 1) rfl
        have q8_r_2 := o8_r.cell (i := 2) rfl
        have l8_r := o8_r.lt
        have H8_r := hide o8_r
        clear o8_r
        have q8_h_0 := o8_h.cell (i := 0) rfl
        have f8_h_0 := o8_h.free 0
        have q8_h_1 := o8_h.cell (i := 1) rfl
        have f8_h_1 := o8_h.free 1
        have q8_h_2 := o8_h.cell (i := 2) rfl
        have f8_h_2 := o8_h.free 2
        have q8_h_3 := o8_h.cell (i := 3) rfl
        have f8_h_3 := o8_h.free 3
        have q8_h_4 := o8_h.cell (i := 4) rfl
        have f8_h_4 := o8_h.free 4
        have q8_h_5 := o8_h.cell (i := 5) rfl
        have f8_h_5 := o8_h.free 5
        have q8_h_6 := o8_h.cell (i := 6) rfl
        have f8_h_6 := o8_h.free 6
        have q8_h_7 := o8_h.cell (i := 7) rfl
        have f8_h_7 := o8_h.free 7
        have q8_h_8 := o8_h.cell (i := 8) rfl
        have f8_h_8 := o8_h.free 8
        have q8_h_9 := o8_h.cell (i := 9) rfl
        have f8_h_9 := o8_h.free 9
        have l8_h := o8_h.lt
        have H8_h := hide o8_h
        clear o8_h
        have q8_five_0 := o8_five.cell (i := 0) rfl
        have q8_five_1 := o8_five.cell (i := 1) rfl
        have q8_five_2 := o8_five.cell (i := 2) rfl
        have l8_five := o8_five.lt
        have H8_five := hide o8_five
        clear o8_five
        have q8_t_0 := o8_t.cell (i := 0) rfl
        have q8_t_1 := o8_t.cell (i := 1) rfl
        have q8_t_2 := o8_t.cell (i := 2) rfl
        have q8_t_3 := o8_t.cell (i := 3) rfl
        have l8_t := o8_t.lt
        have H8_t := hide o8_t
        clear o8_t
        have q8_none_0 := o8_none.cell (i := 0) rfl
        have q8_none_1 := o8_none.cell (i := 1) rfl
        have q8_none_2 := o8_none.cell (i := 2) rfl
        have q8_none_3 := o8_none.cell (i := 3) rfl
        have l8_none := o8_none.lt
        have H8_none := hide o8_none
        clear o8_none
        have hy8 : w.heap.size ≤ w8.heap.size := hB8.size
        have AA := hide (A2H.out 1 (by unfold needsOf; rw [if_neg (by omega), if_neg (by omega), if_neg (by simp)]))
        go_wp2_with fail
        refine (AA.out _).mono ?_
        rintro e w9 ⟨rfl, hb9⟩
        have hB9 : Below w.heap.size w w9 := by
          refine Below.trans ?_ (Below.mono hb9 ?_)
          · go_grown
          · first | omega | (simp; done) | (simp; omega)
        have o9_r : ObjAt w9 (w.heap.size) 40 [.int .i64 e, .int .i64 k, .int .i64 o] := ObjAt.below (H8_r.out) hb9
        have o9_h : ObjAt w9 (w.heap.size + 1) 54 [.int .i64 a, .int .i64 e, .int .i64 a, .int .i64 now, .int .i64 g, .int .i64 u0, .int .i64 u1, .int .i64 u2, .int .i64 u3, .string s] := ObjAt.below (H8_h.out) hb9
        have o9_five : ObjAt w9 (w1.heap.size) 40 [.int .i64 0, .int .i64 v5, .int .i64 0] := ObjAt.below (H8_five.out) hb9
        have o9_t : ObjAt w9 (w7.heap.size) 52 [.int .i64 e, .int .i64 a, .int .i64 now, .int .i64 g] := ObjAt.below (H8_t.out) hb9
        have o9_none : ObjAt w9 (w7.heap.size + 1) 52 [.int .i64 0, .int .i64 0, .int .i64 0, .int .i64 0] := ObjAt.below (H8_none.out) hb9
        clear q8_r_0 q8_r_1 q8_r_2 H8_r q8_h_0 f8_h_0 q8_h_1 f8_h_1 q8_h_2 f8_h_2 q8_h_3 f8_h_3 q8_h_4 f8_h_4 q8_h_5 f8_h_5 q8_h_6 f8_h_6 q8_h_7 f8_h_7 q8_h_8 f8_h_8 q8_h_9 f8_h_9 H8_h q8_five_0 q8_five_1 q8_five_2 H8_five q8_t_0 q8_t_1 q8_t_2 q8_t_3 H8_t q8_none_0 q8_none_1 q8_none_2 q8_none_3 H8_none
        have q9_r_0 := o9_r.cell (i := 0) rfl
        have q9_r_1 := o9_r.cell (i := 1) rfl
        have q9_r_2 := o9_r.cell (i := 2) rfl
        have l9_r := o9_r.lt
        have H9_r := hide o9_r
        clear o9_r
        have q9_h_0 := o9_h.cell (i := 0) rfl
        have f9_h_0 := o9_h.free 0
        have q9_h_1 := o9_h.cell (i := 1) rfl
        have f9_h_1 := o9_h.free 1
        have q9_h_2 := o9_h.cell (i := 2) rfl
        have f9_h_2 := o9_h.free 2
        have q9_h_3 := o9_h.cell (i := 3) rfl
        have f9_h_3 := o9_h.free 3
        have q9_h_4 := o9_h.cell (i := 4) rfl
        have f9_h_4 := o9_h.free 4
        have q9_h_5 := o9_h.cell (i := 5) rfl
        have f9_h_5 := o9_h.free 5
        have q9_h_6 := o9_h.cell (i := 6) rfl
        have f9_h_6 := o9_h.free 6
        have q9_h_7 := o9_h.cell (i := 7) rfl
        have f9_h_7 := o9_h.free 7
        have q9_h_8 := o9_h.cell (i := 8) rfl
        have f9_h_8 := o9_h.free 8
        have q9_h_9 := o9_h.cell (i := 9) rfl
        have f9_h_9 := o9_h.free 9
        have l9_h := o9_h.lt
        have H9_h := hide o9_h
        clear o9_h
        have q9_five_0 := o9_five.cell (i := 0) rfl
        have q9_five_1 := o9_five.cell (i := 1) rfl
        have q9_five_2 := o9_five.cell (i := 2) rfl
        have l9_five := o9_five.lt
        have H9_five := hide o9_five
        clear o9_five
        have q9_t_0 := o9_t.cell (i := 0) rfl
        have q9_t_1 := o9_t.cell (i := 1) rfl
        have q9_t_2 := o9_t.cell (i := 2) rfl
        have q9_t_3 := o9_t.cell (i := 3) rfl
        have l9_t := o9_t.lt
        have H9_t := hide o9_t
        clear o9_t
        have q9_none_0 := o9_none.cell (i := 0) rfl
        have q9_none_1 := o9_none.cell (i := 1) rfl
        have q9_none_2 := o9_none.cell (i := 2) rfl
        have q9_none_3 := o9_none.cell (i := 3) rfl
        have l9_none := o9_none.lt
        have H9_none := hide o9_none
        clear o9_none
        have hy9 : w.heap.size ≤ w9.heap.size := hB9.size
        clear hb9
        go_wp2
        go_ret
        exact ⟨rfl, by go_grown⟩
    ·
      obtain rfl : b = false := by rw [HBE.out]; simp [earlyB]
      have htc0 := HRT.out (by first | rfl | trivial)
      subst htc0
      have CT0 : Hid (∀ W, Calls Try.prog 22 #[.agg #[.int .i64 e, .int .i64 k, .int .i64 o], .agg #[.int .i64 t0, .int .i64 t1, .int .i64 t2, .int .i64 t3], .int .i64 a, .int .i64 now, .int .i64 li] W fun r w' => r = .returned (.nilIface) ∧ Below W.heap.size W w') := CT
      go_wp2_with fail
      refine (CT0.out _).mono ?_
      rintro e w5 ⟨rfl, hb5⟩
      have hB5 : Below w.heap.size w w5 := by
        refine Below.trans ?_ (Below.mono hb5 ?_)
        · go_grown
        · first | omega | (simp; done) | (simp; omega)
      have o5_r : ObjAt w5 (w.heap.size) 40 [.int .i64 e, .int .i64 k, .int .i64 o] := ObjAt.below (H4_r.out) hb5
      have o5_h : ObjAt w5 (w.heap.size + 1) 54 [.int .i64 a, .int .i64 t0, .int .i64 t1, .int .i64 t2, .int .i64 t3, .int .i64 u0, .int .i64 u1, .int .i64 u2, .int .i64 u3, .string s] := ObjAt.below (H4_h.out) hb5
      have o5_five : ObjAt w5 (w1.heap.size) 40 [.int .i64 0, .int .i64 v5, .int .i64 0] := ObjAt.below (H4_five.out) hb5
      clear q4_r_0 q4_r_1 q4_r_2 H4_r q4_h_0 f4_h_0 q4_h_1 f4_h_1 q4_h_2 f4_h_2 q4_h_3 f4_h_3 q4_h_4 f4_h_4 q4_h_5 f4_h_5 q4_h_6 f4_h_6 q4_h_7 f4_h_7 q4_h_8 f4_h_8 q4_h_9 f4_h_9 H4_h q4_five_0 q4_five_1 q4_five_2 H4_five
      have q5_r_0 := o5_r.cell (i := 0) rfl
      have q5_r_1 := o5_r.cell (i := 1) rfl
      have q5_r_2 := o5_r.cell (i := 2) rfl
      have l5_r := o5_r.lt
      have H5_r := hide o5_r
      clear o5_r
      have q5_h_0 := o5_h.cell (i := 0) rfl
      have f5_h_0 := o5_h.free 0
      have q5_h_1 := o5_h.cell (i := 1) rfl
      have f5_h_1 := o5_h.free 1
      have q5_h_2 := o5_h.cell (i := 2) rfl
      have f5_h_2 := o5_h.free 2
      have q5_h_3 := o5_h.cell (i := 3) rfl
      have f5_h_3 := o5_h.free 3
      have q5_h_4 := o5_h.cell (i := 4) rfl
      have f5_h_4 := o5_h.free 4
      have q5_h_5 := o5_h.cell (i := 5) rfl
      have f5_h_5 := o5_h.free 5
      have q5_h_6 := o5_h.cell (i := 6) rfl
      have f5_h_6 := o5_h.free 6
      have q5_h_7 := o5_h.cell (i := 7) rfl
      have f5_h_7 := o5_h.free 7
      have q5_h_8 := o5_h.cell (i := 8) rfl
      have f5_h_8 := o5_h.free 8
      have q5_h_9 := o5_h.cell (i := 9) rfl
      have f5_h_9 := o5_h.free 9
      have l5_h := o5_h.lt
      have H5_h := hide o5_h
      clear o5_h
      have q5_five_0 := o5_five.cell (i := 0) rfl
      have q5_five_1 := o5_five.cell (i := 1) rfl
      have q5_five_2 := o5_five.cell (i := 2) rfl
      have l5_five := o5_five.lt
      have H5_five := hide o5_five
      clear o5_five
      have hy5 : w.heap.size ≤ w5.heap.size := hB5.size
      clear hb5
      go_wp2_with fail
      refine (MK.out _).mono ?_
      rintro e w6 ⟨rfl, hb6⟩
      have hB6 : Below w.heap.size w w6 := by
        refine Below.trans ?_ (Below.mono hb6 ?_)
        · go_grown
        · first | omega | (simp; done) | (simp; omega)
      have o6_r : ObjAt w6 (w.heap.size) 40 [.int .i64 e, .int .i64 k, .int .i64 o] := ObjAt.below (H5_r.out) hb6
      have o6_h : ObjAt w6 (w.heap.size + 1) 54 [.int .i64 a, .int .i64 t0, .int .i64 t1, .int .i64 t2, .int .i64 t3, .int .i64 u0, .int .i64 u1, .int .i64 u2, .int .i64 u3, .string s] := ObjAt.below (H5_h.out) hb6
      have o6_five : ObjAt w6 (w1.heap.size) 40 [.int .i64 0, .int .i64 v5, .int .i64 0] := ObjAt.below (H5_five.out) hb6
      clear q5_r_0 q5_r_1 q5_r_2 H5_r q5_h_0 f5_h_0 q5_h_1 f5_h_1 q5_h_2 f5_h_2 q5_h_3 f5_h_3 q5_h_4 f5_h_4 q5_h_5 f5_h_5 q5_h_6 f5_h_6 q5_h_7 f5_h_7 q5_h_8 f5_h_8 q5_h_9 f5_h_9 H5_h q5_five_0 q5_five_1 q5_five_2 H5_five
      have q6_r_0 := o6_r.cell (i := 0) rfl
      have q6_r_1 := o6_r.cell (i := 1) rfl
      have q6_r_2 := o6_r.cell (i := 2) rfl
      have l6_r := o6_r.lt
      have H6_r := hide o6_r
      clear o6_r
      have q6_h_0 := o6_h.cell (i := 0) rfl
      have f6_h_0 := o6_h.free 0
      have q6_h_1 := o6_h.cell (i := 1) rfl
      have f6_h_1 := o6_h.free 1
      have q6_h_2 := o6_h.cell (i := 2) rfl
      have f6_h_2 := o6_h.free 2
      have q6_h_3 := o6_h.cell (i := 3) rfl
      have f6_h_3 := o6_h.free 3
      have q6_h_4 := o6_h.cell (i := 4) rfl
      have f6_h_4 := o6_h.free 4
      have q6_h_5 := o6_h.cell (i := 5) rfl
      have f6_h_5 := o6_h.free 5
      have q6_h_6 := o6_h.cell (i := 6) rfl
      have f6_h_6 := o6_h.free 6
      have q6_h_7 := o6_h.cell (i := 7) rfl
      have f6_h_7 := o6_h.free 7
      have q6_h_8 := o6_h.cell (i := 8) rfl
      have f6_h_8 := o6_h.free 8
      have q6_h_9 := o6_h.cell (i := 9) rfl
      have f6_h_9 := o6_h.free 9
      have l6_h := o6_h.lt
      have H6_h := hide o6_h
      clear o6_h
      have q6_five_0 := o6_five.cell (i := 0) rfl
      have q6_five_1 := o6_five.cell (i := 1) rfl
      have q6_five_2 := o6_five.cell (i := 2) rfl
      have l6_five := o6_five.lt
      have H6_five := hide o6_five
      clear o6_five
      have hy6 : w.heap.size ≤ w6.heap.size := hB6.size
      clear hb6
      go_upto_region 19 with (fail)
      obtain ⟨w7, hW7⟩ : ∃ W : World, W = (((((w6.setCell ⟨w.heap.size + 1, 1, none⟩ (.int .i64 e)).setCell ⟨w.heap.size + 1, 2, none⟩ (.int .i64 a)).setCell ⟨w.heap.size + 1, 3, none⟩ (.int .i64 now)).setCell ⟨w.heap.size + 1, 4, none⟩ (.int .i64 g)).alloc (.cells #[.int .i64 e, .int .i64 a, .int .i64 now, .int .i64 g] 52)).alloc (.cells #[.int .i64 0, .int .i64 0, .int .i64 0, .int .i64 0] 52) := ⟨_, rfl⟩
      have hB7 : Below w.heap.size w w7 := by rw [hW7]; go_grown
      have o7_r : ObjAt w7 (w.heap.size) 40 [.int .i64 e, .int .i64 k, .int .i64 o] := by rw [hW7]; exact ObjAt.alloc (ObjAt.alloc (ObjAt.setOther (ObjAt.setOther (ObjAt.setOther (ObjAt.setOther (H6_r.out) (by first | omega | (simp <;> omega)) _) (by first | omega | (simp <;> omega)) _) (by first | omega | (simp <;> omega)) _) (by first | omega | (simp <;> omega)) _) _) _
      have o7_h : ObjAt w7 (w.heap.size + 1) 54 [.int .i64 a, .int .i64 e, .int .i64 a, .int .i64 now, .int .i64 g, .int .i64 u0, .int .i64 u1, .int .i64 u2, .int .i64 u3, .string s] := by rw [hW7]; exact ObjAt.alloc (ObjAt.alloc (ObjAt.set (ObjAt.set (ObjAt.set (ObjAt.set (H6_h.out) 1 _) 2 _) 3 _) 4 _) _) _
      have o7_five : ObjAt w7 (w1.heap.size) 40 [.int .i64 0, .int .i64 v5, .int .i64 0] := by rw [hW7]; exact ObjAt.alloc (ObjAt.alloc (ObjAt.setOther (ObjAt.setOther (ObjAt.setOther (ObjAt.setOther (H6_five.out) (by first | omega | (simp <;> omega)) _) (by first | omega | (simp <;> omega)) _) (by first | omega | (simp <;> omega)) _) (by first | omega | (simp <;> omega)) _) _) _
      have o7_t : ObjAt w7 (w6.heap.size) 52 [.int .i64 e, .int .i64 a, .int .i64 now, .int .i64 g] := by rw [hW7]; exact ObjAt.alloc (objNew (by simp)) _
      have o7_none : ObjAt w7 (w6.heap.size + 1) 52 [.int .i64 0, .int .i64 0, .int .i64 0, .int .i64 0] := by rw [hW7]; exact objNew (by simp)
      rw [← hW7]
      clear hW7
      clear q6_r_0 q6_r_1 q6_r_2 H6_r q6_h_0 f6_h_0 q6_h_1 f6_h_1 q6_h_2 f6_h_2 q6_h_3 f6_h_3 q6_h_4 f6_h_4 q6_h_5 f6_h_5 q6_h_6 f6_h_6 q6_h_7 f6_h_7 q6_h_8 f6_h_8 q6_h_9 f6_h_9 H6_h q6_five_0 q6_five_1 q6_five_2 H6_five
      have q7_r_0 := o7_r.cell (i := 0) rfl
      have q7_r_1 := o7_r.cell (i := 1) rfl
      have q7_r_2 := o7_r.cell (i := 2) rfl
      have l7_r := o7_r.lt
      have H7_r := hide o7_r
      clear o7_r
      have q7_h_0 := o7_h.cell (i := 0) rfl
      have f7_h_0 := o7_h.free 0
      have q7_h_1 := o7_h.cell (i := 1) rfl
      have f7_h_1 := o7_h.free 1
      have q7_h_2 := o7_h.cell (i := 2) rfl
      have f7_h_2 := o7_h.free 2
      have q7_h_3 := o7_h.cell (i := 3) rfl
      have f7_h_3 := o7_h.free 3
      have q7_h_4 := o7_h.cell (i := 4) rfl
      have f7_h_4 := o7_h.free 4
      have q7_h_5 := o7_h.cell (i := 5) rfl
      have f7_h_5 := o7_h.free 5
      have q7_h_6 := o7_h.cell (i := 6) rfl
      have f7_h_6 := o7_h.free 6
      have q7_h_7 := o7_h.cell (i := 7) rfl
      have f7_h_7 := o7_h.free 7
      have q7_h_8 := o7_h.cell (i := 8) rfl
      have f7_h_8 := o7_h.free 8
      have q7_h_9 := o7_h.cell (i := 9) rfl
      have f7_h_9 := o7_h.free 9
      have l7_h := o7_h.lt
      have H7_h := hide o7_h
      clear o7_h
      have q7_five_0 := o7_five.cell (i := 0) rfl
      have q7_five_1 := o7_five.cell (i := 1) rfl
      have q7_five_2 := o7_five.cell (i := 2) rfl
      have l7_five := o7_five.lt
      have H7_five := hide o7_five
      clear o7_five
      have q7_t_0 := o7_t.cell (i := 0) rfl
      have q7_t_1 := o7_t.cell (i := 1) rfl
      have q7_t_2 := o7_t.cell (i := 2) rfl
      have q7_t_3 := o7_t.cell (i := 3) rfl
      have l7_t := o7_t.lt
      have H7_t := hide o7_t
      clear o7_t
      have q7_none_0 := o7_none.cell (i := 0) rfl
      have q7_none_1 := o7_none.cell (i := 1) rfl
      have q7_none_2 := o7_none.cell (i := 2) rfl
      have q7_none_3 := o7_none.cell (i := 3) rfl
      have l7_none := o7_none.lt
      have H7_none := hide o7_none
      clear o7_none
      have hy7 : w.heap.size ≤ w7.heap.size := hB7.size
      obtain ⟨q, hq⟩ : ∃ q, q = !(e == 0 && a == 0 && now == 0 && g == 0) := ⟨_, rfl⟩
      cases q
      ·
        have hz : e = 0 ∧ a = 0 ∧ now = 0 ∧ g = 0 := by simpa [and_assoc] using hq.symm
        obtain ⟨z0, z1, z2, z3⟩ := hz
        have AA := hide (A2H.out 0 (by rw [← hq]; unfold needsOf; rw [if_neg (by omega), if_neg (by omega), if_pos ⟨by omega, rfl, rfl⟩]))
        have tz0 : (e == 0) = true := by simp [z0]
        have tz1 : (a == 0) = true := by simp [z1]
        have tz2 : (now == 0) = true := by simp [z2]
        have tz3 : (g == 0) = true := by simp [z3]
        clear hq z0 z1 z2 z3
        go_wp2_with fail
        refine (AA.out _).mono ?_
        rintro e w8 ⟨rfl, hb8⟩
        have hB8 : Below w.heap.size w w8 := by
          refine Below.trans ?_ (Below.mono hb8 ?_)
          · go_grown
          · first | omega | (simp; done) | (simp; omega)
        have o8_r : ObjAt w8 (w.heap.size) 40 [.int .i64 e, .int .i64 k, .int .i64 o] := ObjAt.below (H7_r.out) hb8
        have o8_h : ObjAt w8 (w.heap.size + 1) 54 [.int .i64 a, .int .i64 e, .int .i64 a, .int .i64 now, .int .i64 g, .int .i64 u0, .int .i64 u1, .int .i64 u2, .int .i64 u3, .string s] := ObjAt.below (H7_h.out) hb8
        have o8_five : ObjAt w8 (w1.heap.size) 40 [.int .i64 0, .int .i64 v5, .int .i64 0] := ObjAt.below (H7_five.out) hb8
        have o8_t : ObjAt w8 (w6.heap.size) 52 [.int .i64 e, .int .i64 a, .int .i64 now, .int .i64 g] := ObjAt.below (H7_t.out) hb8
        have o8_none : ObjAt w8 (w6.heap.size + 1) 52 [.int .i64 0, .int .i64 0, .int .i64 0, .int .i64 0] := ObjAt.below (H7_none.out) hb8
        clear q7_r_0 q7_r_1 q7_r_2 H7_r q7_h_0 f7_h_0 q7_h_1 f7_h_1 q7_h_2 f7_h_2 q7_h_3 f7_h_3 q7_h_4 f7_h_4 q7_h_5 f7_h_5 q7_h_6 f7_h_6 q7_h_7 f7_h_7 q7_h_8 f7_h_8 q7_h_9 f7_h_9 H7_h q7_five_0 q7_five_1 q7_five_2 H7_five q7_t_0 q7_t_1 q7_t_2 q7_t_3 H7_t q7_none_0 q7_none_1 q7_none_2 q7_none_3 H7_none
        have q8_r_0 := o8_r.cell (i := 0) rfl
        have q8_r_1 := o8_r.cell (i := 1) rfl
        have q8_r_2 := o8_r.cell (i := 2) rfl
        have l8_r := o8_r.lt
        have H8_r := hide o8_r
        clear o8_r
        have q8_h_0 := o8_h.cell (i := 0) rfl
        have f8_h_0 := o8_h.free 0
        have q8_h_1 := o8_h.cell (i := 1) rfl
        have f8_h_1 := o8_h.free 1
        have q8_h_2 := o8_h.cell (i := 2) rfl
        have f8_h_2 := o8_h.free 2
        have q8_h_3 := o8_h.cell (i := 3) rfl
        have f8_h_3 := o8_h.free 3
        have q8_h_4 := o8_h.cell (i := 4) rfl
        have f8_h_4 := o8_h.free 4
        have q8_h_5 := o8_h.cell (i := 5) rfl
        have f8_h_5 := o8_h.free 5
        have q8_h_6 := o8_h.cell (i := 6) rfl
        have f8_h_6 := o8_h.free 6
        have q8_h_7 := o8_h.cell (i := 7) rfl
        have f8_h_7 := o8_h.free 7
        have q8_h_8 := o8_h.cell (i := 8) rfl
        have f8_h_8 := o8_h.free 8
        have q8_h_9 := o8_h.cell (i := 9) rfl
        have f8_h_9 := o8_h.free 9
        have l8_h := o8_h.lt
        have H8_h := hide o8_h
        clear o8_h
        have q8_five_0 := o8_five.cell (i := 0) rfl
        have q8_five_1 := o8_five.cell (i := 1) rfl
        have q8_five_2 := o8_five.cell (i := 2) rfl
        have l8_five := o8_five.lt
        have H8_five := hide o8_five
        clear o8_five
        have q8_t_0 := o8_t.cell (i := 0) rfl
        have q8_t_1 := o8_t.cell (i := 1) rfl
        have q8_t_2 := o8_t.cell (i := 2) rfl
        have q8_t_3 := o8_t.cell (i := 3) rfl
        have l8_t := o8_t.lt
        have H8_t := hide o8_t
        clear o8_t
        have q8_none_0 := o8_none.cell (i := 0) rfl
        have q8_none_1 := o8_none.cell (i := 1) rfl
        have q8_none_2 := o8_none.cell (i := 2) rfl
        have q8_none_3 := o8_none.cell (i := 3) rfl
        have l8_none := o8_none.lt
        have H8_none := hide o8_none
        clear o8_none
        have hy8 : w.heap.size ≤ w8.heap.size := hB8.size
        clear hb8
        go_wp2
        go_ret
        exact ⟨rfl, by go_grown⟩
      ·
        have AA := hide (A2H.out 1 (by rw [← hq]; unfold needsOf; rw [if_neg (by omega), if_neg (by omega), if_neg (by simp)]))
        clear hq
        go_wp2_with fail
        refine (AA.out _).mono ?_
        rintro e w8 ⟨rfl, hb8⟩
        have hB8 : Below w.heap.size w w8 := by
          refine Below.trans ?_ (Below.mono hb8 ?_)
          · go_grown
          · first | omega | (simp; done) | (simp; omega)
        have o8_r : ObjAt w8 (w.heap.size) 40 [.int .i64 e, .int .i64 k, .int .i64 o] := ObjAt.below (H7_r.out) hb8
        have o8_h : ObjAt w8 (w.heap.size + 1) 54 [.int .i64 a, .int .i64 e, .int .i64 a, .int .i64 now, .int .i64 g, .int .i64 u0, .int .i64 u1, .int .i64 u2, .int .i64 u3, .string s] := ObjAt.below (H7_h.out) hb8
        have o8_five : ObjAt w8 (w1.heap.size) 40 [.int .i64 0, .int .i64 v5, .int .i64 0] := ObjAt.below (H7_five.out) hb8
        have o8_t : ObjAt w8 (w6.heap.size) 52 [.int .i64 e, .int .i64 a, .int .i64 now, .int .i64 g] := ObjAt.below (H7_t.out) hb8
        have o8_none : ObjAt w8 (w6.heap.size + 1) 52 [.int .i64 0, .int .i64 0, .int .i64 0, .int .i64 0] := ObjAt.below (H7_none.out) hb8
        clear q7_r_0 q7_r_1 q7_r_2 H7_r q7_h_0 f7_h_0 q7_h_1 f7_h_1 q7_h_2 f7_h_2 q7_h_3 f7_h_3 q7_h_4 f7_h_4 q7_h_5 f7_h_5 q7_h_6 f7_h_6 q7_h_7 f7_h_7 q7_h_8 f7_h_8 q7_h_9 f7_h_9 H7_h q7_five_0 q7_five_1 q7_five_2 H7_five q7_t_0 q7_t_1 q7_t_2 q7_t_3 H7_t q7_none_0 q7_none_1 q7_none_2 q7_none_3 H7_none
        have q8_r_0 := o8_r.cell (i := 0) rfl
        have q8_r_1 := o8_r.cell (i := 1) rfl
        have q8_r_2 := o8_r.cell (i := 2) rfl
        have l8_r := o8_r.lt
        have H8_r := hide o8_r
        clear o8_r
        have q8_h_0 := o8_h.cell (i := 0) rfl
        have f8_h_0 := o8_h.free 0
        have q8_h_1 := o8_h.cell (i := 1) rfl
        have f8_h_1 := o8_h.free 1
        have q8_h_2 := o8_h.cell (i := 2) rfl
        have f8_h_2 := o8_h.free 2
        have q8_h_3 := o8_h.cell (i := 3) rfl
        have f8_h_3 := o8_h.free 3
        have q8_h_4 := o8_h.cell (i := 4) rfl
        have f8_h_4 := o8_h.free 4
        have q8_h_5 := o8_h.cell (i := 5) rfl
        have f8_h_5 := o8_h.free 5
        have q8_h_6 := o8_h.cell (i := 6) rfl
        have f8_h_6 := o8_h.free 6
        have q8_h_7 := o8_h.cell (i := 7) rfl
        have f8_h_7 := o8_h.free 7
        have q8_h_8 := o8_h.cell (i := 8) rfl
        have f8_h_8 := o8_h.free 8
        have q8_h_9 := o8_h.cell (i := 9) rfl
        have f8_h_9 := o8_h.free 9
        have l8_h := o8_h.lt
        have H8_h := hide o8_h
        clear o8_h
        have q8_five_0 := o8_five.cell (i := 0) rfl
        have q8_five_1 := o8_five.cell (i := 1) rfl
        have q8_five_2 := o8_five.cell (i := 2) rfl
        have l8_five := o8_five.lt
        have H8_five := hide o8_five
        clear o8_five
        have q8_t_0 := o8_t.cell (i := 0) rfl
        have q8_t_1 := o8_t.cell (i := 1) rfl
        have q8_t_2 := o8_t.cell (i := 2) rfl
        have q8_t_3 := o8_t.cell (i := 3) rfl
        have l8_t := o8_t.lt
        have H8_t := hide o8_t
        clear o8_t
        have q8_none_0 := o8_none.cell (i := 0) rfl
        have q8_none_1 := o8_none.cell (i := 1) rfl
        have q8_none_2 := o8_none.cell (i := 2) rfl
        have q8_none_3 := o8_none.cell (i := 3) rfl
        have l8_none := o8_none.lt
        have H8_none := hide o8_none
        clear o8_none
        have hy8 : w.heap.size ≤ w8.heap.size := hB8.size
        clear hb8
        go_wp2
        go_ret
        exact ⟨rfl, by go_grown⟩
    ·
      obtain rfl : b = false := by rw [HBE.out]; simp [earlyB]
      go_wp2_with fail
      refine (CT.out _).mono ?_
      rintro e w5 ⟨rfl, hb5⟩
      have hB5 : Below w.heap.size w w5 := by
        refine Below.trans ?_ (Below.mono hb5 ?_)
        · go_grown
        · first | omega | (simp; done) | (simp; omega)
      have o5_r : ObjAt w5 (w.heap.size) 40 [.int .i64 e, .int .i64 k, .int .i64 o] := ObjAt.below (H4_r.out) hb5
      have o5_h : ObjAt w5 (w.heap.size + 1) 54 [.int .i64 a, .int .i64 t0, .int .i64 t1, .int .i64 t2, .int .i64 t3, .int .i64 u0, .int .i64 u1, .int .i64 u2, .int .i64 u3, .string s] := ObjAt.below (H4_h.out) hb5
      have o5_five : ObjAt w5 (w1.heap.size) 40 [.int .i64 0, .int .i64 v5, .int .i64 0] := ObjAt.below (H4_five.out) hb5
      clear q4_r_0 q4_r_1 q4_r_2 H4_r q4_h_0 f4_h_0 q4_h_1 f4_h_1 q4_h_2 f4_h_2 q4_h_3 f4_h_3 q4_h_4 f4_h_4 q4_h_5 f4_h_5 q4_h_6 f4_h_6 q4_h_7 f4_h_7 q4_h_8 f4_h_8 q4_h_9 f4_h_9 H4_h q4_five_0 q4_five_1 q4_five_2 H4_five
      have q5_r_0 := o5_r.cell (i := 0) rfl
      have q5_r_1 := o5_r.cell (i := 1) rfl
      have q5_r_2 := o5_r.cell (i := 2) rfl
      have l5_r := o5_r.lt
      have H5_r := hide o5_r
      clear o5_r
      have q5_h_0 := o5_h.cell (i := 0) rfl
      have f5_h_0 := o5_h.free 0
      have q5_h_1 := o5_h.cell (i := 1) rfl
      have f5_h_1 := o5_h.free 1
      have q5_h_2 := o5_h.cell (i := 2) rfl
      have f5_h_2 := o5_h.free 2
      have q5_h_3 := o5_h.cell (i := 3) rfl
      have f5_h_3 := o5_h.free 3
      have q5_h_4 := o5_h.cell (i := 4) rfl
      have f5_h_4 := o5_h.free 4
      have q5_h_5 := o5_h.cell (i := 5) rfl
      have f5_h_5 := o5_h.free 5
      have q5_h_6 := o5_h.cell (i := 6) rfl
      have f5_h_6 := o5_h.free 6
      have q5_h_7 := o5_h.cell (i := 7) rfl
      have f5_h_7 := o5_h.free 7
      have q5_h_8 := o5_h.cell (i := 8) rfl
      have f5_h_8 := o5_h.free 8
      have q5_h_9 := o5_h.cell (i := 9) rfl
      have f5_h_9 := o5_h.free 9
      have l5_h := o5_h.lt
      have H5_h := hide o5_h
      clear o5_h
      have q5_five_0 := o5_five.cell (i := 0) rfl
      have q5_five_1 := o5_five.cell (i := 1) rfl
      have q5_five_2 := o5_five.cell (i := 2) rfl
      have l5_five := o5_five.lt
      have H5_five := hide o5_five
      clear o5_five
      have hy5 : w.heap.size ≤ w5.heap.size := hB5.size
      clear hb5
      go_wp2_with fail
      refine (MK.out _).mono ?_
      rintro e w6 ⟨rfl, hb6⟩
      have hB6 : Below w.heap.size w w6 := by
        refine Below.trans ?_ (Below.mono hb6 ?_)
        · go_grown
        · first | omega | (simp; done) | (simp; omega)
      have o6_r : ObjAt w6 (w.heap.size) 40 [.int .i64 e, .int .i64 k, .int .i64 o] := ObjAt.below (H5_r.out) hb6
      have o6_h : ObjAt w6 (w.heap.size + 1) 54 [.int .i64 a, .int .i64 t0, .int .i64 t1, .int .i64 t2, .int .i64 t3, .int .i64 u0, .int .i64 u1, .int .i64 u2, .int .i64 u3, .string s] := ObjAt.below (H5_h.out) hb6
      have o6_five : ObjAt w6 (w1.heap.size) 40 [.int .i64 0, .int .i64 v5, .int .i64 0] := ObjAt.below (H5_five.out) hb6
      clear q5_r_0 q5_r_1 q5_r_2 H5_r q5_h_0 f5_h_0 q5_h_1 f5_h_1 q5_h_2 f5_h_2 q5_h_3 f5_h_3 q5_h_4 f5_h_4 q5_h_5 f5_h_5 q5_h_6 f5_h_6 q5_h_7 f5_h_7 q5_h_8 f5_h_8 q5_h_9 f5_h_9 H5_h q5_five_0 q5_five_1 q5_five_2 H5_five
      have q6_r_0 := o6_r.cell (i := 0) rfl
      have q6_r_1 := o6_r.cell (i := 1) rfl
      have q6_r_2 := o6_r.cell (i := 2) rfl
      have l6_r := o6_r.lt
      have H6_r := hide o6_r
      clear o6_r
      have q6_h_0 := o6_h.cell (i := 0) rfl
      have f6_h_0 := o6_h.free 0
      have q6_h_1 := o6_h.cell (i := 1) rfl
      have f6_h_1 := o6_h.free 1
      have q6_h_2 := o6_h.cell (i := 2) rfl
      have f6_h_2 := o6_h.free 2
      have q6_h_3 := o6_h.cell (i := 3) rfl
      have f6_h_3 := o6_h.free 3
      have q6_h_4 := o6_h.cell (i := 4) rfl
      have f6_h_4 := o6_h.free 4
      have q6_h_5 := o6_h.cell (i := 5) rfl
      have f6_h_5 := o6_h.free 5
      have q6_h_6 := o6_h.cell (i := 6) rfl
      have f6_h_6 := o6_h.free 6
      have q6_h_7 := o6_h.cell (i := 7) rfl
      have f6_h_7 := o6_h.free 7
      have q6_h_8 := o6_h.cell (i := 8) rfl
      have f6_h_8 := o6_h.free 8
      have q6_h_9 := o6_h.cell (i := 9) rfl
      have f6_h_9 := o6_h.free 9
      have l6_h := o6_h.lt
      have H6_h := hide o6_h
      clear o6_h
      have q6_five_0 := o6_five.cell (i := 0) rfl
      have q6_five_1 := o6_five.cell (i := 1) rfl
      have q6_five_2 := o6_five.cell (i := 2) rfl
      have l6_five := o6_five.lt
      have H6_five := hide o6_five
      clear o6_five
      have hy6 : w.heap.size ≤ w6.heap.size := hB6.size
      clear hb6
      go_upto_region 19 with (fail)
      obtain ⟨w7, hW7⟩ : ∃ W : World, W = (((((w6.setCell ⟨w.heap.size + 1, 1, none⟩ (.int .i64 e)).setCell ⟨w.heap.size + 1, 2, none⟩ (.int .i64 a)).setCell ⟨w.heap.size + 1, 3, none⟩ (.int .i64 now)).setCell ⟨w.heap.size + 1, 4, none⟩ (.int .i64 g)).alloc (.cells #[.int .i64 e, .int .i64 a, .int .i64 now, .int .i64 g] 52)).alloc (.cells #[.int .i64 0, .int .i64 0, .int .i64 0, .int .i64 0] 52) := ⟨_, rfl⟩
      have hB7 : Below w.heap.size w w7 := by rw [hW7]; go_grown
      have o7_r : ObjAt w7 (w.heap.size) 40 [.int .i64 e, .int .i64 k, .int .i64 o] := by rw [hW7]; exact ObjAt.alloc (ObjAt.alloc (ObjAt.setOther (ObjAt.setOther (ObjAt.setOther (ObjAt.setOther (H6_r.out) (by first | omega | (simp <;> omega)) _) (by first | omega | (simp <;> omega)) _) (by first | omega | (simp <;> omega)) _) (by first | omega | (simp <;> omega)) _) _) _
      have o7_h : ObjAt w7 (w.heap.size + 1) 54 [.int .i64 a, .int .i64 e, .int .i64 a, .int .i64 now, .int .i64 g, .int .i64 u0, .int .i64 u1, .int .i64 u2, .int .i64 u3, .string s] := by rw [hW7]; exact ObjAt.alloc (ObjAt.alloc (ObjAt.set (ObjAt.set (ObjAt.set (ObjAt.set (H6_h.out) 1 _) 2 _) 3 _) 4 _) _) _
      have o7_five : ObjAt w7 (w1.heap.size) 40 [.int .i64 0, .int .i64 v5, .int .i64 0] := by rw [hW7]; exact ObjAt.alloc (ObjAt.alloc (ObjAt.setOther (ObjAt.setOther (ObjAt.setOther (ObjAt.setOther (H6_five.out) (by first | omega | (simp <;> omega)) _) (by first | omega | (simp <;> omega)) _) (by first | omega | (simp <;> omega)) _) (by first | omega | (simp <;> omega)) _) _) _
      have o7_t : ObjAt w7 (w6.heap.size) 52 [.int .i64 e, .int .i64 a, .int .i64 now, .int .i64 g] := by rw [hW7]; exact ObjAt.alloc (objNew (by simp)) _
      have o7_none : ObjAt w7 (w6.heap.size + 1) 52 [.int .i64 0, .int .i64 0, .int .i64 0, .int .i64 0] := by rw [hW7]; exact objNew (by simp)
      rw [← hW7]
      clear hW7
      clear q6_r_0 q6_r_1 q6_r_2 H6_r q6_h_0 f6_h_0 q6_h_1 f6_h_1 q6_h_2 f6_h_2 q6_h_3 f6_h_3 q6_h_4 f6_h_4 q6_h_5 f6_h_5 q6_h_6 f6_h_6 q6_h_7 f6_h_7 q6_h_8 f6_h_8 q6_h_9 f6_h_9 H6_h q6_five_0 q6_five_1 q6_five_2 H6_five
      have q7_r_0 := o7_r.cell (i := 0) rfl
      have q7_r_1 := o7_r.cell (i := 1) rfl
      have q7_r_2 := o7_r.cell (i := 2) rfl
      have l7_r := o7_r.lt
      have H7_r := hide o7_r
      clear o7_r
      have q7_h_0 := o7_h.cell (i := 0) rfl
      have f7_h_0 := o7_h.free 0
      have q7_h_1 := o7_h.cell (i := 1) rfl
      have f7_h_1 := o7_h.free 1
      have q7_h_2 := o7_h.cell (i := 2) rfl
      have f7_h_2 := o7_h.free 2
      have q7_h_3 := o7_h.cell (i := 3) rfl
      have f7_h_3 := o7_h.free 3
      have q7_h_4 := o7_h.cell (i := 4) rfl
      have f7_h_4 := o7_h.free 4
      have q7_h_5 := o7_h.cell (i := 5) rfl
      have f7_h_5 := o7_h.free 5
      have q7_h_6 := o7_h.cell (i := 6) rfl
      have f7_h_6 := o7_h.free 6
      have q7_h_7 := o7_h.cell (i := 7) rfl
      have f7_h_7 := o7_h.free 7
      have q7_h_8 := o7_h.cell (i := 8) rfl
      have f7_h_8 := o7_h.free 8
      have q7_h_9 := o7_h.cell (i := 9) rfl
      have f7_h_9 := o7_h.free 9
      have l7_h := o7_h.lt
      have H7_h := hide o7_h
      clear o7_h
      have q7_five_0 := o7_five.cell (i := 0) rfl
      have q7_five_1 := o7_five.cell (i := 1) rfl
      have q7_five_2 := o7_five.cell (i := 2) rfl
      have l7_five := o7_five.lt
      have H7_five := hide o7_five
      clear o7_five
      have q7_t_0 := o7_t.cell (i := 0) rfl
      have q7_t_1 := o7_t.cell (i := 1) rfl
      have q7_t_2 := o7_t.cell (i := 2) rfl
      have q7_t_3 := o7_t.cell (i := 3) rfl
      have l7_t := o7_t.lt
      have H7_t := hide o7_t
      clear o7_t
      have q7_none_0 := o7_none.cell (i := 0) rfl
      have q7_none_1 := o7_none.cell (i := 1) rfl
      have q7_none_2 := o7_none.cell (i := 2) rfl
      have q7_none_3 := o7_none.cell (i := 3) rfl
      have l7_none := o7_none.lt
      have H7_none := hide o7_none
      clear o7_none
      have hy7 : w.heap.size ≤ w7.heap.size := hB7.size
      obtain ⟨q, hq⟩ : ∃ q, q = !(e == 0 && a == 0 && now == 0 && g == 0) := ⟨_, rfl⟩
      cases q
      ·
        have hz : e = 0 ∧ a = 0 ∧ now = 0 ∧ g = 0 := by simpa [and_assoc] using hq.symm
        obtain ⟨z0, z1, z2, z3⟩ := hz
        have AA := hide (A2H.out 0 (by rw [← hq]; unfold needsOf; rw [if_neg (by omega), if_neg (by omega), if_pos ⟨by omega, rfl, rfl⟩]))
        have tz0 : (e == 0) = true := by simp [z0]
        have tz1 : (a == 0) = true := by simp [z1]
        have tz2 : (now == 0) = true := by simp [z2]
        have tz3 : (g == 0) = true := by simp [z3]
        clear hq z0 z1 z2 z3
        go_wp2_with fail
        refine (AA.out _).mono ?_
        rintro e w8 ⟨rfl, hb8⟩
        have hB8 : Below w.heap.size w w8 := by
          refine Below.trans ?_ (Below.mono hb8 ?_)
          · go_grown
          · first | omega | (simp; done) | (simp; omega)
        have o8_r : ObjAt w8 (w.heap.size) 40 [.int .i64 e, .int .i64 k, .int .i64 o] := ObjAt.below (H7_r.out) hb8
        have o8_h : ObjAt w8 (w.heap.size + 1) 54 [.int .i64 a, .int .i64 e, .int .i64 a, .int .i64 now, .int .i64 g, .int .i64 u0, .int .i64 u1, .int .i64 u2, .int .i64 u3, .string s] := ObjAt.below (H7_h.out) hb8
        have o8_five : ObjAt w8 (w1.heap.size) 40 [.int .i64 0, .int .i64 v5, .int .i64 0] := ObjAt.below (H7_five.out) hb8
        have o8_t : ObjAt w8 (w6.heap.size) 52 [.int .i64 e, .int .i64 a, .int .i64 now, .int .i64 g] := ObjAt.below (H7_t.out) hb8
        have o8_none : ObjAt w8 (w6.heap.size + 1) 52 [.int .i64 0, .int .i64 0, .int .i64 0, .int .i64 0] := ObjAt.below (H7_none.out) hb8
        clear q7_r_0 q7_r_1 q7_r_2 H7_r q7_h_0 f7_h_0 q7_h_1 f7_h_1 q7_h_2 f7_h_2 q7_h_3 f7_h_3 q7_h_4 f7_h_4 q7_h_5 f7_h_5 q7_h_6 f7_h_6 q7_h_7 f7_h_7 q7_h_8 f7_h_8 q7_h_9 f7_h_9 H7_h q7_five_0 q7_five_1 q7_five_2 H7_five q7_t_0 q7_t_1 q7_t_2 q7_t_3 H7_t q7_none_0 q7_none_1 q7_none_2 q7_none_3 H7_none
        have q8_r_0 := o8_r.cell (i := 0) rfl
        have q8_r_1 := o8_r.cell (i := 1) rfl
        have q8_r_2 := o8_r.cell (i := 2) rfl
        have l8_r := o8_r.lt
        have H8_r := hide o8_r
        clear o8_r
        have q8_h_0 := o8_h.cell (i := 0) rfl
        have f8_h_0 := o8_h.free 0
        have q8_h_1 := o8_h.cell (i := 1) rfl
        have f8_h_1 := o8_h.free 1
        have q8_h_2 := o8_h.cell (i := 2) rfl
        have f8_h_2 := o8_h.free 2
        have q8_h_3 := o8_h.cell (i := 3) rfl
        have f8_h_3 := o8_h.free 3
        have q8_h_4 := o8_h.cell (i := 4) rfl
        have f8_h_4 := o8_h.free 4
        have q8_h_5 := o8_h.cell (i := 5) rfl
        have f8_h_5 := o8_h.free 5
        have q8_h_6 := o8_h.cell (i := 6) rfl
        have f8_h_6 := o8_h.free 6
        have q8_h_7 := o8_h.cell (i := 7) rfl
        have f8_h_7 := o8_h.free 7
        have q8_h_8 := o8_h.cell (i := 8) rfl
        have f8_h_8 := o8_h.free 8
        have q8_h_9 := o8_h.cell (i := 9) rfl
        have f8_h_9 := o8_h.free 9
        have l8_h := o8_h.lt
        have H8_h := hide o8_h
        clear o8_h
        have q8_five_0 := o8_five.cell (i := 0) rfl
        have q8_five_1 := o8_five.cell (i := 1) rfl
        have q8_five_2 := o8_five.cell (i := 2) rfl
        have l8_five := o8_five.lt
        have H8_five := hide o8_five
        clear o8_five
        have q8_t_0 := o8_t.cell (i := 0) rfl
        have q8_t_1 := o8_t.cell (i := 1) rfl
        have q8_t_2 := o8_t.cell (i := 2) rfl
        have q8_t_3 := o8_t.cell (i := 3) rfl
        have l8_t := o8_t.lt
        have H8_t := hide o8_t
        clear o8_t
        have q8_none_0 := o8_none.cell (i := 0) rfl
        have q8_none_1 := o8_none.cell (i := 1) rfl
        have q8_none_2 := o8_none.cell (i := 2) rfl
        have q8_none_3 := o8_none.cell (i := 3) rfl
        have l8_none := o8_none.lt
        have H8_none := hide o8_none
        clear o8_none
        have hy8 : w.heap.size ≤ w8.heap.size := hB8.size
        clear hb8
        go_wp2
        go_ret
        exact ⟨rfl, by go_grown⟩
      ·
        have AA := hide (A2H.out 1 (by rw [← hq]; unfold needsOf; rw [if_neg (by omega), if_neg (by omega), if_neg (by simp)]))
        clear hq
        go_wp2_with fail
        refine (AA.out _).mono ?_
        rintro e w8 ⟨rfl, hb8⟩
        have hB8 : Below w.heap.size w w8 := by
          refine Below.trans ?_ (Below.mono hb8 ?_)
          · go_grown
          · first | omega | (simp; done) | (simp; omega)
        have o8_r : ObjAt w8 (w.heap.size) 40 [.int .i64 e, .int .i64 k, .int .i64 o] := ObjAt.below (H7_r.out) hb8
        have o8_h : ObjAt w8 (w.heap.size + 1) 54 [.int .i64 a, .int .i64 e, .int .i64 a, .int .i64 now, .int .i64 g, .int .i64 u0, .int .i64 u1, .int .i64 u2, .int .i64 u3, .string s] := ObjAt.below (H7_h.out) hb8
        have o8_five : ObjAt w8 (w1.heap.size) 40 [.int .i64 0, .int .i64 v5, .int .i64 0] := ObjAt.below (H7_five.out) hb8
        have o8_t : ObjAt w8 (w6.heap.size) 52 [.int .i64 e, .int .i64 a, .int .i64 now, .int .i64 g] := ObjAt.below (H7_t.out) hb8
        have o8_none : ObjAt w8 (w6.heap.size + 1) 52 [.int .i64 0, .int .i64 0, .int .i64 0, .int .i64 0] := ObjAt.below (H7_none.out) hb8
        clear q7_r_0 q7_r_1 q7_r_2 H7_r q7_h_0 f7_h_0 q7_h_1 f7_h_1 q7_h_2 f7_h_2 q7_h_3 f7_h_3 q7_h_4 f7_h_4 q7_h_5 f7_h_5 q7_h_6 f7_h_6 q7_h_7 f7_h_7 q7_h_8 f7_h_8 q7_h_9 f7_h_9 H7_h q7_five_0 q7_five_1 q7_five_2 H7_five q7_t_0 q7_t_1 q7_t_2 q7_t_3 H7_t q7_none_0 q7_none_1 q7_none_2 q7_none_3 H7_none
        have q8_r_0 := o8_r.cell (i := 0) rfl
        have q8_r_1 := o8_r.cell (i := 1) rfl
        have q8_r_2 := o8_r.cell (i := 2) rfl
        have l8_r := o8_r.lt
        have H8_r := hide o8_r
        clear o8_r
        have q8_h_0 := o8_h.cell (i := 0) rfl
        have f8_h_0 := o8_h.free 0
        have q8_h_1 := o8_h.cell (i := 1) rfl
        have f8_h_1 := o8_h.free 1
        have q8_h_2 := o8_h.cell (i := 2) rfl
        have f8_h_2 := o8_h.free 2
        have q8_h_3 := o8_h.cell (i := 3) rfl
        have f8_h_3 := o8_h.free 3
        have q8_h_4 := o8_h.cell (i := 4) rfl
        have f8_h_4 := o8_h.free 4
        have q8_h_5 := o8_h.cell (i := 5) rfl
        have f8_h_5 := o8_h.free 5
        have q8_h_6 := o8_h.cell (i := 6) rfl
        have f8_h_6 := o8_h.free 6
        have q8_h_7 := o8_h.cell (i := 7) rfl
        have f8_h_7 := o8_h.free 7
        have q8_h_8 := o8_h.cell (i := 8) rfl
        have f8_h_8 := o8_h.free 8
        have q8_h_9 := o8_h.cell (i := 9) rfl
        have f8_h_9 := o8_h.free 9
        have l8_h := o8_h.lt
        have H8_h := hide o8_h
        clear o8_h
        have q8_five_0 := o8_five.cell (i := 0) rfl
        have q8_five_1 := o8_five.cell (i := 1) rfl
        have q8_five_2 := o8_five.cell (i := 2) rfl
        have l8_five := o8_five.lt
        have H8_five := hide o8_five
        clear o8_five
        have q8_t_0 := o8_t.cell (i := 0) rfl
        have q8_t_1 := o8_t.cell (i := 1) rfl
        have q8_t_2 := o8_t.cell (i := 2) rfl
        have q8_t_3 := o8_t.cell (i := 3) rfl
        have l8_t := o8_t.lt
        have H8_t := hide o8_t
        clear o8_t
        have q8_none_0 := o8_none.cell (i := 0) rfl
        have q8_none_1 := o8_none.cell (i := 1) rfl
        have q8_none_2 := o8_none.cell (i := 2) rfl
        have q8_none_3 := o8_none.cell (i := 3) rfl
        have l8_none := o8_none.lt
        have H8_none := hide o8_none
        clear o8_none
        have hy8 : w.heap.size ≤ w8.heap.size := hB8.size
        clear hb8
        go_wp2
        go_ret
        exact ⟨rfl, by go_grown⟩
  ·
    have tc1 : (c != 0) = true := bne_iff_ne.2 hc
    clear han hc
    go_wp2
    go_ret
    exact ⟨rfl, by go_grown⟩
end Go.Proofs.Ytmbklchoplgdlaa
