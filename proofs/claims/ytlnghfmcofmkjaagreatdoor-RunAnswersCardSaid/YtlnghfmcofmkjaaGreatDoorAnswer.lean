/- judge: Answer by contract. -/
import Derived.Test.YtlnghfmcofmkjaaGreatDoorRunAnswersProofM16
import Derived.Test.YtlnghfmcofmkjaaGreatDoorTokenC
import Derived.Test.YtlnghfmcofmkjaaGreatDoorLoad
import Derived.Test.YtlnghfmcofmkjaaGreatDoorRunAnswersProofM4
import Derived.Deep.QuietTactic
import Derived.BigQuiet
import Derived.Deep.Cut
import Derived.Deep.DeepCutAuto
namespace Go.Proofs.YtlnghfmcofmkjaaGreatDoor
open Go.RowKit

/-- has it a right token? -/
def rightB (e k o t0 t1 t2 t3 a now li : Int) : Bool := !(t0 == 0 && t1 == 0 && t2 == 0 && t3 == 0) && tokE e k o t0 t1 t2 t3 a now li == 0
/-- may its early bytes be taken? -/
def earlyB (n : Int) (old : Bool) (s : ByteArray) : Bool := n == 1 && old && (decide (0 < s.size) && decide (s.size ≤ 40))
/-- what is answered -/
def ansN (e k o a t0 t1 t2 t3 u0 u1 u2 u3 : Int) (s : ByteArray) (wt now li : Int) : Int × Bool × Int :=
  if ringE e k o ≠ 0 then (0, false, ringE e k o) else if (inB a && tmB now && tmB li) = false then (0, false, 1)
  else if (needsOf wt (rightB e k o t0 t1 t2 t3 a now li) (oldB e k o u0 u1 u2 u3 now)).2 ≠ 0 then (0, false, (needsOf wt (rightB e k o t0 t1 t2 t3 a now li) (oldB e k o u0 u1 u2 u3 now)).2)
  else ((needsOf wt (rightB e k o t0 t1 t2 t3 a now li) (oldB e k o u0 u1 u2 u3 now)).1, earlyB (needsOf wt (rightB e k o t0 t1 t2 t3 a now li) (oldB e k o u0 u1 u2 u3 now)).1 (oldB e k o u0 u1 u2 u3 now) s, 0)
theorem needs_eqA {n : Int} {t o : Bool} {v c : Int} (h : needsOf n t o = (v, c)) (w : World) : Calls Tryz.prog 127 #[.int .i64 n, .bool t, .bool o] w fun e w' => e = .returned (.tuple #[.int .i64 v, errV c]) ∧ w = w' := by
  have g := needsAny n t o w
  rwa [h] at g
theorem ba_zero {s : ByteArray} (h : s.size = 0) : s = ⟨#[]⟩ := by
  cases s with
  | mk x =>
    have : x.size = 0 := h
    rw [Array.eq_empty_of_size_eq_zero this]
theorem ba_isEmpty {s : ByteArray} (h : 0 < s.size) : s.toList.isEmpty = false := by
  have h1 : s.toList.length = s.size := by rw [ByteArray.toList_eq]; simp
  cases hl : s.toList with
  | nil => rw [hl] at h1; simp at h1; omega
  | cons x l => rfl
set_option maxRecDepth 100000 in
set_option maxHeartbeats 8000000 in
theorem judgeAnswer {e k o a t0 t1 t2 t3 u0 u1 u2 u3 : Int} {s : ByteArray} {wt now li n c : Int} {b : Bool} (hsz : s.size ≤ 9223372036854775807) (h : ansN e k o a t0 t1 t2 t3 u0 u1 u2 u3 s wt now li = (n, b, c)) (w : World) :
    Calls Tryz.prog 105 #[.agg #[.int .i64 e, .int .i64 k, .int .i64 o], .agg #[.int .i64 a, .int .i64 t0, .int .i64 t1, .int .i64 t2, .int .i64 t3, .int .i64 u0, .int .i64 u1, .int .i64 u2, .int .i64 u3, .string s], .int .i64 wt, .int .i64 now, .int .i64 li] w fun r w' => r = .returned (.tuple #[.int .i64 n, .bool b, errV c]) ∧ Below w.heap.size w w' := by
  by_cases hr : ringE e k o = 0
  · have C : Hid (∀ W, Calls Tryz.prog 110 #[.agg #[.int .i64 e, .int .i64 k, .int .i64 o]] W fun r w' => r = .returned .nilIface ∧ Below W.heap.size W w') := ringCheck_eq (c := 0) hr
    have IA := hide (fun W => tagIn a W)
    have TN := hide (fun W => tokenTime now W)
    have TL := hide (fun W => tokenTime li W)
    cases ha : inB a
    · rw [ha] at IA
      obtain ⟨rfl, rfl, rfl⟩ : n = 0 ∧ b = false ∧ c = 1 := by unfold ansN at h; rw [if_neg (by simp [hr]), if_pos (by simp [ha])] at h; simp only [Prod.mk.injEq] at h; exact ⟨h.1.symm, h.2.1.symm, h.2.2.symm⟩
      clear h hr ha
      go_enter Tryz.func105, Tryz.ntmps105
      go_wp2_with fail
      refine (C.out _).mono ?_
      rintro e w1 ⟨rfl, hb1⟩
      have hB1 : Below w.heap.size w w1 := by
        refine Below.trans ?_ (Below.mono hb1 ?_)
        · go_grown
        · first | omega | (simp; done) | (simp; omega)
      have o1_r : ObjAt w1 (w.heap.size) 52 [.int .i64 e, .int .i64 k, .int .i64 o] := ObjAt.below (ObjAt.alloc (objNew (by simp)) _) hb1
      have o1_h : ObjAt w1 (w.heap.size + 1) 69 [.int .i64 a, .int .i64 t0, .int .i64 t1, .int .i64 t2, .int .i64 t3, .int .i64 u0, .int .i64 u1, .int .i64 u2, .int .i64 u3, .string s] := ObjAt.below (objNew (by simp)) hb1
      have q1_r_0 := o1_r.cell (i := 0) rfl
      have q1_r_1 := o1_r.cell (i := 1) rfl
      have q1_r_2 := o1_r.cell (i := 2) rfl
      have l1_r := o1_r.lt
      have H1_r := hide o1_r
      clear o1_r
      have q1_h_0 := o1_h.cell (i := 0) rfl
      have q1_h_1 := o1_h.cell (i := 1) rfl
      have q1_h_2 := o1_h.cell (i := 2) rfl
      have q1_h_3 := o1_h.cell (i := 3) rfl
      have q1_h_4 := o1_h.cell (i := 4) rfl
      have q1_h_5 := o1_h.cell (i := 5) rfl
      have q1_h_6 := o1_h.cell (i := 6) rfl
      have q1_h_7 := o1_h.cell (i := 7) rfl
      have q1_h_8 := o1_h.cell (i := 8) rfl
      have q1_h_9 := o1_h.cell (i := 9) rfl
      have l1_h := o1_h.lt
      have H1_h := hide o1_h
      clear o1_h
      have hy1 : w.heap.size ≤ w1.heap.size := hB1.size
      clear hb1
      go_wp2_with fail
      refine (IA.out _).mono ?_
      rintro e w502 ⟨rfl, rfl⟩
      go_wp2
      exact bodyPost_ret (v := .tuple #[.int .i64 0, .bool false, .iface 82 (.int .i64 1)]) (by simp [results, Tryz.results105, go_sem, *]) rfl ⟨rfl, by go_grown⟩
    · rw [ha] at IA
      cases hn : tmB now
      · rw [hn] at TN
        obtain ⟨rfl, rfl, rfl⟩ : n = 0 ∧ b = false ∧ c = 1 := by unfold ansN at h; rw [if_neg (by simp [hr]), if_pos (by simp [hn])] at h; simp only [Prod.mk.injEq] at h; exact ⟨h.1.symm, h.2.1.symm, h.2.2.symm⟩
        clear h hr ha hn
        go_enter Tryz.func105, Tryz.ntmps105
        go_wp2_with fail
        refine (C.out _).mono ?_
        rintro e w1 ⟨rfl, hb1⟩
        have hB1 : Below w.heap.size w w1 := by
          refine Below.trans ?_ (Below.mono hb1 ?_)
          · go_grown
          · first | omega | (simp; done) | (simp; omega)
        have o1_r : ObjAt w1 (w.heap.size) 52 [.int .i64 e, .int .i64 k, .int .i64 o] := ObjAt.below (ObjAt.alloc (objNew (by simp)) _) hb1
        have o1_h : ObjAt w1 (w.heap.size + 1) 69 [.int .i64 a, .int .i64 t0, .int .i64 t1, .int .i64 t2, .int .i64 t3, .int .i64 u0, .int .i64 u1, .int .i64 u2, .int .i64 u3, .string s] := ObjAt.below (objNew (by simp)) hb1
        have q1_r_0 := o1_r.cell (i := 0) rfl
        have q1_r_1 := o1_r.cell (i := 1) rfl
        have q1_r_2 := o1_r.cell (i := 2) rfl
        have l1_r := o1_r.lt
        have H1_r := hide o1_r
        clear o1_r
        have q1_h_0 := o1_h.cell (i := 0) rfl
        have q1_h_1 := o1_h.cell (i := 1) rfl
        have q1_h_2 := o1_h.cell (i := 2) rfl
        have q1_h_3 := o1_h.cell (i := 3) rfl
        have q1_h_4 := o1_h.cell (i := 4) rfl
        have q1_h_5 := o1_h.cell (i := 5) rfl
        have q1_h_6 := o1_h.cell (i := 6) rfl
        have q1_h_7 := o1_h.cell (i := 7) rfl
        have q1_h_8 := o1_h.cell (i := 8) rfl
        have q1_h_9 := o1_h.cell (i := 9) rfl
        have l1_h := o1_h.lt
        have H1_h := hide o1_h
        clear o1_h
        have hy1 : w.heap.size ≤ w1.heap.size := hB1.size
        clear hb1
        go_wp2_with fail
        refine (IA.out _).mono ?_
        rintro e w502 ⟨rfl, rfl⟩
        go_wp2_with fail
        refine (TN.out _).mono ?_
        rintro e w503 ⟨rfl, rfl⟩
        go_wp2
        exact bodyPost_ret (v := .tuple #[.int .i64 0, .bool false, .iface 82 (.int .i64 1)]) (by simp [results, Tryz.results105, go_sem, *]) rfl ⟨rfl, by go_grown⟩
      · rw [hn] at TN
        cases hl : tmB li
        · rw [hl] at TL
          obtain ⟨rfl, rfl, rfl⟩ : n = 0 ∧ b = false ∧ c = 1 := by unfold ansN at h; rw [if_neg (by simp [hr]), if_pos (by simp [hl])] at h; simp only [Prod.mk.injEq] at h; exact ⟨h.1.symm, h.2.1.symm, h.2.2.symm⟩
          clear h hr ha hn hl
          go_enter Tryz.func105, Tryz.ntmps105
          go_wp2_with fail
          refine (C.out _).mono ?_
          rintro e w1 ⟨rfl, hb1⟩
          have hB1 : Below w.heap.size w w1 := by
            refine Below.trans ?_ (Below.mono hb1 ?_)
            · go_grown
            · first | omega | (simp; done) | (simp; omega)
          have o1_r : ObjAt w1 (w.heap.size) 52 [.int .i64 e, .int .i64 k, .int .i64 o] := ObjAt.below (ObjAt.alloc (objNew (by simp)) _) hb1
          have o1_h : ObjAt w1 (w.heap.size + 1) 69 [.int .i64 a, .int .i64 t0, .int .i64 t1, .int .i64 t2, .int .i64 t3, .int .i64 u0, .int .i64 u1, .int .i64 u2, .int .i64 u3, .string s] := ObjAt.below (objNew (by simp)) hb1
          have q1_r_0 := o1_r.cell (i := 0) rfl
          have q1_r_1 := o1_r.cell (i := 1) rfl
          have q1_r_2 := o1_r.cell (i := 2) rfl
          have l1_r := o1_r.lt
          have H1_r := hide o1_r
          clear o1_r
          have q1_h_0 := o1_h.cell (i := 0) rfl
          have q1_h_1 := o1_h.cell (i := 1) rfl
          have q1_h_2 := o1_h.cell (i := 2) rfl
          have q1_h_3 := o1_h.cell (i := 3) rfl
          have q1_h_4 := o1_h.cell (i := 4) rfl
          have q1_h_5 := o1_h.cell (i := 5) rfl
          have q1_h_6 := o1_h.cell (i := 6) rfl
          have q1_h_7 := o1_h.cell (i := 7) rfl
          have q1_h_8 := o1_h.cell (i := 8) rfl
          have q1_h_9 := o1_h.cell (i := 9) rfl
          have l1_h := o1_h.lt
          have H1_h := hide o1_h
          clear o1_h
          have hy1 : w.heap.size ≤ w1.heap.size := hB1.size
          clear hb1
          go_wp2_with fail
          refine (IA.out _).mono ?_
          rintro e w502 ⟨rfl, rfl⟩
          go_wp2_with fail
          refine (TN.out _).mono ?_
          rintro e w503 ⟨rfl, rfl⟩
          go_wp2_with fail
          refine (TL.out _).mono ?_
          rintro e w504 ⟨rfl, rfl⟩
          go_wp2
          exact bodyPost_ret (v := .tuple #[.int .i64 0, .bool false, .iface 82 (.int .i64 1)]) (by simp [results, Tryz.results105, go_sem, *]) rfl ⟨rfl, by go_grown⟩
        · rw [hl] at TL
          obtain ⟨tc, htc⟩ : ∃ c, tokE e k o t0 t1 t2 t3 a now li = c := ⟨_, rfl⟩
          have CT := hide (fun W => tokenCheck_eq htc W)
          obtain ⟨rv, hrv⟩ : ∃ v, rightB e k o t0 t1 t2 t3 a now li = v := ⟨_, rfl⟩
          have hrv' : (!(t0 == 0 && t1 == 0 && t2 == 0 && t3 == 0) && tc == 0) = rv := by rw [← hrv, ← htc]; rfl
          obtain ⟨ov, hov⟩ : ∃ v, oldB e k o u0 u1 u2 u3 now = v := ⟨_, rfl⟩
          have CO := hide (fun W => judgeold_eq hov W)
          obtain ⟨nv, nc, hne⟩ : ∃ v c, needsOf wt rv ov = (v, c) := ⟨_, _, rfl⟩
          have CN := hide (fun W => needs_eqA hne W)
          have hh := h
          unfold ansN at hh
          rw [if_neg (by simp [hr]), if_neg (by simp [ha, hn, hl]), hrv, hov, hne] at hh
          simp only at hh
          have HH := hide hh
          have HRV := hide hrv'
          clear h hr ha hn hl htc hrv hrv' hov hne hh
          go_enter Tryz.func105, Tryz.ntmps105
          go_wp2_with fail
          refine (C.out _).mono ?_
          rintro e w1 ⟨rfl, hb1⟩
          have hB1 : Below w.heap.size w w1 := by
            refine Below.trans ?_ (Below.mono hb1 ?_)
            · go_grown
            · first | omega | (simp; done) | (simp; omega)
          have o1_r : ObjAt w1 (w.heap.size) 52 [.int .i64 e, .int .i64 k, .int .i64 o] := ObjAt.below (ObjAt.alloc (objNew (by simp)) _) hb1
          have o1_h : ObjAt w1 (w.heap.size + 1) 69 [.int .i64 a, .int .i64 t0, .int .i64 t1, .int .i64 t2, .int .i64 t3, .int .i64 u0, .int .i64 u1, .int .i64 u2, .int .i64 u3, .string s] := ObjAt.below (objNew (by simp)) hb1
          have q1_r_0 := o1_r.cell (i := 0) rfl
          have q1_r_1 := o1_r.cell (i := 1) rfl
          have q1_r_2 := o1_r.cell (i := 2) rfl
          have l1_r := o1_r.lt
          have H1_r := hide o1_r
          clear o1_r
          have q1_h_0 := o1_h.cell (i := 0) rfl
          have q1_h_1 := o1_h.cell (i := 1) rfl
          have q1_h_2 := o1_h.cell (i := 2) rfl
          have q1_h_3 := o1_h.cell (i := 3) rfl
          have q1_h_4 := o1_h.cell (i := 4) rfl
          have q1_h_5 := o1_h.cell (i := 5) rfl
          have q1_h_6 := o1_h.cell (i := 6) rfl
          have q1_h_7 := o1_h.cell (i := 7) rfl
          have q1_h_8 := o1_h.cell (i := 8) rfl
          have q1_h_9 := o1_h.cell (i := 9) rfl
          have l1_h := o1_h.lt
          have H1_h := hide o1_h
          clear o1_h
          have hy1 : w.heap.size ≤ w1.heap.size := hB1.size
          clear hb1
          go_wp2_with fail
          refine (IA.out _).mono ?_
          rintro e w502 ⟨rfl, rfl⟩
          go_wp2_with fail
          refine (TN.out _).mono ?_
          rintro e w503 ⟨rfl, rfl⟩
          go_wp2_with fail
          refine (TL.out _).mono ?_
          rintro e w504 ⟨rfl, rfl⟩
          go_upto_region 6 with (fail)
          go_cut [14] (fun rt wx => rt = .bool rv ∧ ObjAt wx w.heap.size 52 [.int .i64 e, .int .i64 k, .int .i64 o] ∧ ObjAt wx (w.heap.size + 1) 69 [.int .i64 a, .int .i64 t0, .int .i64 t1, .int .i64 t2, .int .i64 t3, .int .i64 u0, .int .i64 u1, .int .i64 u2, .int .i64 u3, .string s] ∧ Below w.heap.size w wx)
          case first =>
            by_cases z0 : t0 = 0
            ·
              have zz0 : (t0 == 0) = true := by simp [z0]
              subst z0
              by_cases z1 : t1 = 0
              ·
                have zz1 : (t1 == 0) = true := by simp [z1]
                subst z1
                by_cases z2 : t2 = 0
                ·
                  have zz2 : (t2 == 0) = true := by simp [z2]
                  subst z2
                  by_cases z3 : t3 = 0
                  ·
                    have zz3 : (t3 == 0) = true := by simp [z3]
                    subst z3
                    go_wp2
                    go_meet
                    case rel => exact ⟨by rw [← HRV.out]; simp [*], H1_r.out, H1_h.out, by go_grown⟩
                  ·
                    have zz3 : (t3 == 0) = false := beq_eq_false_iff_ne.2 z3
                    have zn3 : (t3 != 0) = true := bne_iff_ne.2 z3
                    clear z3
                    by_cases h0 : tc = 0
                    ·
                      subst h0
                      have CT' : Hid (∀ W, Calls Tryz.prog 125 #[.agg #[.int .i64 e, .int .i64 k, .int .i64 o], .agg #[.int .i64 0, .int .i64 0, .int .i64 0, .int .i64 t3], .int .i64 a, .int .i64 now, .int .i64 li] W fun r w' => r = .returned (.nilIface) ∧ Below W.heap.size W w') := CT
                      go_wp2_with fail
                      refine (CT'.out _).mono ?_
                      rintro e w5 ⟨rfl, hb5⟩
                      have hB5 : Below w.heap.size w w5 := by
                        refine Below.trans ?_ (Below.mono hb5 ?_)
                        · go_grown
                        · first | omega | (simp; done) | (simp; omega)
                      have o5_r : ObjAt w5 (w.heap.size) 52 [.int .i64 e, .int .i64 k, .int .i64 o] := ObjAt.below (H1_r.out) hb5
                      have o5_h : ObjAt w5 (w.heap.size + 1) 69 [.int .i64 a, .int .i64 0, .int .i64 0, .int .i64 0, .int .i64 t3, .int .i64 u0, .int .i64 u1, .int .i64 u2, .int .i64 u3, .string s] := ObjAt.below (H1_h.out) hb5
                      clear q1_r_0 q1_r_1 q1_r_2 H1_r q1_h_0 q1_h_1 q1_h_2 q1_h_3 q1_h_4 q1_h_5 q1_h_6 q1_h_7 q1_h_8 q1_h_9 H1_h
                      have q5_r_0 := o5_r.cell (i := 0) rfl
                      have q5_r_1 := o5_r.cell (i := 1) rfl
                      have q5_r_2 := o5_r.cell (i := 2) rfl
                      have l5_r := o5_r.lt
                      have H5_r := hide o5_r
                      clear o5_r
                      have q5_h_0 := o5_h.cell (i := 0) rfl
                      have q5_h_1 := o5_h.cell (i := 1) rfl
                      have q5_h_2 := o5_h.cell (i := 2) rfl
                      have q5_h_3 := o5_h.cell (i := 3) rfl
                      have q5_h_4 := o5_h.cell (i := 4) rfl
                      have q5_h_5 := o5_h.cell (i := 5) rfl
                      have q5_h_6 := o5_h.cell (i := 6) rfl
                      have q5_h_7 := o5_h.cell (i := 7) rfl
                      have q5_h_8 := o5_h.cell (i := 8) rfl
                      have q5_h_9 := o5_h.cell (i := 9) rfl
                      have l5_h := o5_h.lt
                      have H5_h := hide o5_h
                      clear o5_h
                      have hy5 : w.heap.size ≤ w5.heap.size := hB5.size
                      clear hb5
                      go_wp2
                      go_meet
                      case rel => exact ⟨by rw [← HRV.out]; simp [*], H5_r.out, H5_h.out, by go_grown⟩
                    ·
                      have tt1 : (tc == 0) = false := beq_eq_false_iff_ne.2 h0
                      clear h0
                      go_wp2_with fail
                      refine (CT.out _).mono ?_
                      rintro e w5 ⟨rfl, hb5⟩
                      have hB5 : Below w.heap.size w w5 := by
                        refine Below.trans ?_ (Below.mono hb5 ?_)
                        · go_grown
                        · first | omega | (simp; done) | (simp; omega)
                      have o5_r : ObjAt w5 (w.heap.size) 52 [.int .i64 e, .int .i64 k, .int .i64 o] := ObjAt.below (H1_r.out) hb5
                      have o5_h : ObjAt w5 (w.heap.size + 1) 69 [.int .i64 a, .int .i64 0, .int .i64 0, .int .i64 0, .int .i64 t3, .int .i64 u0, .int .i64 u1, .int .i64 u2, .int .i64 u3, .string s] := ObjAt.below (H1_h.out) hb5
                      clear q1_r_0 q1_r_1 q1_r_2 H1_r q1_h_0 q1_h_1 q1_h_2 q1_h_3 q1_h_4 q1_h_5 q1_h_6 q1_h_7 q1_h_8 q1_h_9 H1_h
                      have q5_r_0 := o5_r.cell (i := 0) rfl
                      have q5_r_1 := o5_r.cell (i := 1) rfl
                      have q5_r_2 := o5_r.cell (i := 2) rfl
                      have l5_r := o5_r.lt
                      have H5_r := hide o5_r
                      clear o5_r
                      have q5_h_0 := o5_h.cell (i := 0) rfl
                      have q5_h_1 := o5_h.cell (i := 1) rfl
                      have q5_h_2 := o5_h.cell (i := 2) rfl
                      have q5_h_3 := o5_h.cell (i := 3) rfl
                      have q5_h_4 := o5_h.cell (i := 4) rfl
                      have q5_h_5 := o5_h.cell (i := 5) rfl
                      have q5_h_6 := o5_h.cell (i := 6) rfl
                      have q5_h_7 := o5_h.cell (i := 7) rfl
                      have q5_h_8 := o5_h.cell (i := 8) rfl
                      have q5_h_9 := o5_h.cell (i := 9) rfl
                      have l5_h := o5_h.lt
                      have H5_h := hide o5_h
                      clear o5_h
                      have hy5 : w.heap.size ≤ w5.heap.size := hB5.size
                      clear hb5
                      go_wp2
                      go_meet
                      case rel => exact ⟨by rw [← HRV.out]; simp [*], H5_r.out, H5_h.out, by go_grown⟩
                ·
                  have zz2 : (t2 == 0) = false := beq_eq_false_iff_ne.2 z2
                  have zn2 : (t2 != 0) = true := bne_iff_ne.2 z2
                  clear z2
                  by_cases h0 : tc = 0
                  ·
                    subst h0
                    have CT' : Hid (∀ W, Calls Tryz.prog 125 #[.agg #[.int .i64 e, .int .i64 k, .int .i64 o], .agg #[.int .i64 0, .int .i64 0, .int .i64 t2, .int .i64 t3], .int .i64 a, .int .i64 now, .int .i64 li] W fun r w' => r = .returned (.nilIface) ∧ Below W.heap.size W w') := CT
                    go_wp2_with fail
                    refine (CT'.out _).mono ?_
                    rintro e w5 ⟨rfl, hb5⟩
                    have hB5 : Below w.heap.size w w5 := by
                      refine Below.trans ?_ (Below.mono hb5 ?_)
                      · go_grown
                      · first | omega | (simp; done) | (simp; omega)
                    have o5_r : ObjAt w5 (w.heap.size) 52 [.int .i64 e, .int .i64 k, .int .i64 o] := ObjAt.below (H1_r.out) hb5
                    have o5_h : ObjAt w5 (w.heap.size + 1) 69 [.int .i64 a, .int .i64 0, .int .i64 0, .int .i64 t2, .int .i64 t3, .int .i64 u0, .int .i64 u1, .int .i64 u2, .int .i64 u3, .string s] := ObjAt.below (H1_h.out) hb5
                    clear q1_r_0 q1_r_1 q1_r_2 H1_r q1_h_0 q1_h_1 q1_h_2 q1_h_3 q1_h_4 q1_h_5 q1_h_6 q1_h_7 q1_h_8 q1_h_9 H1_h
                    have q5_r_0 := o5_r.cell (i := 0) rfl
                    have q5_r_1 := o5_r.cell (i := 1) rfl
                    have q5_r_2 := o5_r.cell (i := 2) rfl
                    have l5_r := o5_r.lt
                    have H5_r := hide o5_r
                    clear o5_r
                    have q5_h_0 := o5_h.cell (i := 0) rfl
                    have q5_h_1 := o5_h.cell (i := 1) rfl
                    have q5_h_2 := o5_h.cell (i := 2) rfl
                    have q5_h_3 := o5_h.cell (i := 3) rfl
                    have q5_h_4 := o5_h.cell (i := 4) rfl
                    have q5_h_5 := o5_h.cell (i := 5) rfl
                    have q5_h_6 := o5_h.cell (i := 6) rfl
                    have q5_h_7 := o5_h.cell (i := 7) rfl
                    have q5_h_8 := o5_h.cell (i := 8) rfl
                    have q5_h_9 := o5_h.cell (i := 9) rfl
                    have l5_h := o5_h.lt
                    have H5_h := hide o5_h
                    clear o5_h
                    have hy5 : w.heap.size ≤ w5.heap.size := hB5.size
                    clear hb5
                    go_wp2
                    go_meet
                    case rel => exact ⟨by rw [← HRV.out]; simp [*], H5_r.out, H5_h.out, by go_grown⟩
                  ·
                    have tt1 : (tc == 0) = false := beq_eq_false_iff_ne.2 h0
                    clear h0
                    go_wp2_with fail
                    refine (CT.out _).mono ?_
                    rintro e w5 ⟨rfl, hb5⟩
                    have hB5 : Below w.heap.size w w5 := by
                      refine Below.trans ?_ (Below.mono hb5 ?_)
                      · go_grown
                      · first | omega | (simp; done) | (simp; omega)
                    have o5_r : ObjAt w5 (w.heap.size) 52 [.int .i64 e, .int .i64 k, .int .i64 o] := ObjAt.below (H1_r.out) hb5
                    have o5_h : ObjAt w5 (w.heap.size + 1) 69 [.int .i64 a, .int .i64 0, .int .i64 0, .int .i64 t2, .int .i64 t3, .int .i64 u0, .int .i64 u1, .int .i64 u2, .int .i64 u3, .string s] := ObjAt.below (H1_h.out) hb5
                    clear q1_r_0 q1_r_1 q1_r_2 H1_r q1_h_0 q1_h_1 q1_h_2 q1_h_3 q1_h_4 q1_h_5 q1_h_6 q1_h_7 q1_h_8 q1_h_9 H1_h
                    have q5_r_0 := o5_r.cell (i := 0) rfl
                    have q5_r_1 := o5_r.cell (i := 1) rfl
                    have q5_r_2 := o5_r.cell (i := 2) rfl
                    have l5_r := o5_r.lt
                    have H5_r := hide o5_r
                    clear o5_r
                    have q5_h_0 := o5_h.cell (i := 0) rfl
                    have q5_h_1 := o5_h.cell (i := 1) rfl
                    have q5_h_2 := o5_h.cell (i := 2) rfl
                    have q5_h_3 := o5_h.cell (i := 3) rfl
                    have q5_h_4 := o5_h.cell (i := 4) rfl
                    have q5_h_5 := o5_h.cell (i := 5) rfl
                    have q5_h_6 := o5_h.cell (i := 6) rfl
                    have q5_h_7 := o5_h.cell (i := 7) rfl
                    have q5_h_8 := o5_h.cell (i := 8) rfl
                    have q5_h_9 := o5_h.cell (i := 9) rfl
                    have l5_h := o5_h.lt
                    have H5_h := hide o5_h
                    clear o5_h
                    have hy5 : w.heap.size ≤ w5.heap.size := hB5.size
                    clear hb5
                    go_wp2
                    go_meet
                    case rel => exact ⟨by rw [← HRV.out]; simp [*], H5_r.out, H5_h.out, by go_grown⟩
              ·
                have zz1 : (t1 == 0) = false := beq_eq_false_iff_ne.2 z1
                have zn1 : (t1 != 0) = true := bne_iff_ne.2 z1
                clear z1
                by_cases h0 : tc = 0
                ·
                  subst h0
                  have CT' : Hid (∀ W, Calls Tryz.prog 125 #[.agg #[.int .i64 e, .int .i64 k, .int .i64 o], .agg #[.int .i64 0, .int .i64 t1, .int .i64 t2, .int .i64 t3], .int .i64 a, .int .i64 now, .int .i64 li] W fun r w' => r = .returned (.nilIface) ∧ Below W.heap.size W w') := CT
                  go_wp2_with fail
                  refine (CT'.out _).mono ?_
                  rintro e w5 ⟨rfl, hb5⟩
                  have hB5 : Below w.heap.size w w5 := by
                    refine Below.trans ?_ (Below.mono hb5 ?_)
                    · go_grown
                    · first | omega | (simp; done) | (simp; omega)
                  have o5_r : ObjAt w5 (w.heap.size) 52 [.int .i64 e, .int .i64 k, .int .i64 o] := ObjAt.below (H1_r.out) hb5
                  have o5_h : ObjAt w5 (w.heap.size + 1) 69 [.int .i64 a, .int .i64 0, .int .i64 t1, .int .i64 t2, .int .i64 t3, .int .i64 u0, .int .i64 u1, .int .i64 u2, .int .i64 u3, .string s] := ObjAt.below (H1_h.out) hb5
                  clear q1_r_0 q1_r_1 q1_r_2 H1_r q1_h_0 q1_h_1 q1_h_2 q1_h_3 q1_h_4 q1_h_5 q1_h_6 q1_h_7 q1_h_8 q1_h_9 H1_h
                  have q5_r_0 := o5_r.cell (i := 0) rfl
                  have q5_r_1 := o5_r.cell (i := 1) rfl
                  have q5_r_2 := o5_r.cell (i := 2) rfl
                  have l5_r := o5_r.lt
                  have H5_r := hide o5_r
                  clear o5_r
                  have q5_h_0 := o5_h.cell (i := 0) rfl
                  have q5_h_1 := o5_h.cell (i := 1) rfl
                  have q5_h_2 := o5_h.cell (i := 2) rfl
                  have q5_h_3 := o5_h.cell (i := 3) rfl
                  have q5_h_4 := o5_h.cell (i := 4) rfl
                  have q5_h_5 := o5_h.cell (i := 5) rfl
                  have q5_h_6 := o5_h.cell (i := 6) rfl
                  have q5_h_7 := o5_h.cell (i := 7) rfl
                  have q5_h_8 := o5_h.cell (i := 8) rfl
                  have q5_h_9 := o5_h.cell (i := 9) rfl
                  have l5_h := o5_h.lt
                  have H5_h := hide o5_h
                  clear o5_h
                  have hy5 : w.heap.size ≤ w5.heap.size := hB5.size
                  clear hb5
                  go_wp2
                  go_meet
                  case rel => exact ⟨by rw [← HRV.out]; simp [*], H5_r.out, H5_h.out, by go_grown⟩
                ·
                  have tt1 : (tc == 0) = false := beq_eq_false_iff_ne.2 h0
                  clear h0
                  go_wp2_with fail
                  refine (CT.out _).mono ?_
                  rintro e w5 ⟨rfl, hb5⟩
                  have hB5 : Below w.heap.size w w5 := by
                    refine Below.trans ?_ (Below.mono hb5 ?_)
                    · go_grown
                    · first | omega | (simp; done) | (simp; omega)
                  have o5_r : ObjAt w5 (w.heap.size) 52 [.int .i64 e, .int .i64 k, .int .i64 o] := ObjAt.below (H1_r.out) hb5
                  have o5_h : ObjAt w5 (w.heap.size + 1) 69 [.int .i64 a, .int .i64 0, .int .i64 t1, .int .i64 t2, .int .i64 t3, .int .i64 u0, .int .i64 u1, .int .i64 u2, .int .i64 u3, .string s] := ObjAt.below (H1_h.out) hb5
                  clear q1_r_0 q1_r_1 q1_r_2 H1_r q1_h_0 q1_h_1 q1_h_2 q1_h_3 q1_h_4 q1_h_5 q1_h_6 q1_h_7 q1_h_8 q1_h_9 H1_h
                  have q5_r_0 := o5_r.cell (i := 0) rfl
                  have q5_r_1 := o5_r.cell (i := 1) rfl
                  have q5_r_2 := o5_r.cell (i := 2) rfl
                  have l5_r := o5_r.lt
                  have H5_r := hide o5_r
                  clear o5_r
                  have q5_h_0 := o5_h.cell (i := 0) rfl
                  have q5_h_1 := o5_h.cell (i := 1) rfl
                  have q5_h_2 := o5_h.cell (i := 2) rfl
                  have q5_h_3 := o5_h.cell (i := 3) rfl
                  have q5_h_4 := o5_h.cell (i := 4) rfl
                  have q5_h_5 := o5_h.cell (i := 5) rfl
                  have q5_h_6 := o5_h.cell (i := 6) rfl
                  have q5_h_7 := o5_h.cell (i := 7) rfl
                  have q5_h_8 := o5_h.cell (i := 8) rfl
                  have q5_h_9 := o5_h.cell (i := 9) rfl
                  have l5_h := o5_h.lt
                  have H5_h := hide o5_h
                  clear o5_h
                  have hy5 : w.heap.size ≤ w5.heap.size := hB5.size
                  clear hb5
                  go_wp2
                  go_meet
                  case rel => exact ⟨by rw [← HRV.out]; simp [*], H5_r.out, H5_h.out, by go_grown⟩
            ·
              have zz0 : (t0 == 0) = false := beq_eq_false_iff_ne.2 z0
              have zn0 : (t0 != 0) = true := bne_iff_ne.2 z0
              clear z0
              by_cases h0 : tc = 0
              ·
                subst h0
                have CT' : Hid (∀ W, Calls Tryz.prog 125 #[.agg #[.int .i64 e, .int .i64 k, .int .i64 o], .agg #[.int .i64 t0, .int .i64 t1, .int .i64 t2, .int .i64 t3], .int .i64 a, .int .i64 now, .int .i64 li] W fun r w' => r = .returned (.nilIface) ∧ Below W.heap.size W w') := CT
                go_wp2_with fail
                refine (CT'.out _).mono ?_
                rintro e w5 ⟨rfl, hb5⟩
                have hB5 : Below w.heap.size w w5 := by
                  refine Below.trans ?_ (Below.mono hb5 ?_)
                  · go_grown
                  · first | omega | (simp; done) | (simp; omega)
                have o5_r : ObjAt w5 (w.heap.size) 52 [.int .i64 e, .int .i64 k, .int .i64 o] := ObjAt.below (H1_r.out) hb5
                have o5_h : ObjAt w5 (w.heap.size + 1) 69 [.int .i64 a, .int .i64 t0, .int .i64 t1, .int .i64 t2, .int .i64 t3, .int .i64 u0, .int .i64 u1, .int .i64 u2, .int .i64 u3, .string s] := ObjAt.below (H1_h.out) hb5
                clear q1_r_0 q1_r_1 q1_r_2 H1_r q1_h_0 q1_h_1 q1_h_2 q1_h_3 q1_h_4 q1_h_5 q1_h_6 q1_h_7 q1_h_8 q1_h_9 H1_h
                have q5_r_0 := o5_r.cell (i := 0) rfl
                have q5_r_1 := o5_r.cell (i := 1) rfl
                have q5_r_2 := o5_r.cell (i := 2) rfl
                have l5_r := o5_r.lt
                have H5_r := hide o5_r
                clear o5_r
                have q5_h_0 := o5_h.cell (i := 0) rfl
                have q5_h_1 := o5_h.cell (i := 1) rfl
                have q5_h_2 := o5_h.cell (i := 2) rfl
                have q5_h_3 := o5_h.cell (i := 3) rfl
                have q5_h_4 := o5_h.cell (i := 4) rfl
                have q5_h_5 := o5_h.cell (i := 5) rfl
                have q5_h_6 := o5_h.cell (i := 6) rfl
                have q5_h_7 := o5_h.cell (i := 7) rfl
                have q5_h_8 := o5_h.cell (i := 8) rfl
                have q5_h_9 := o5_h.cell (i := 9) rfl
                have l5_h := o5_h.lt
                have H5_h := hide o5_h
                clear o5_h
                have hy5 : w.heap.size ≤ w5.heap.size := hB5.size
                clear hb5
                go_wp2
                go_meet
                case rel => exact ⟨by rw [← HRV.out]; simp [*], H5_r.out, H5_h.out, by go_grown⟩
              ·
                have tt1 : (tc == 0) = false := beq_eq_false_iff_ne.2 h0
                clear h0
                go_wp2_with fail
                refine (CT.out _).mono ?_
                rintro e w5 ⟨rfl, hb5⟩
                have hB5 : Below w.heap.size w w5 := by
                  refine Below.trans ?_ (Below.mono hb5 ?_)
                  · go_grown
                  · first | omega | (simp; done) | (simp; omega)
                have o5_r : ObjAt w5 (w.heap.size) 52 [.int .i64 e, .int .i64 k, .int .i64 o] := ObjAt.below (H1_r.out) hb5
                have o5_h : ObjAt w5 (w.heap.size + 1) 69 [.int .i64 a, .int .i64 t0, .int .i64 t1, .int .i64 t2, .int .i64 t3, .int .i64 u0, .int .i64 u1, .int .i64 u2, .int .i64 u3, .string s] := ObjAt.below (H1_h.out) hb5
                clear q1_r_0 q1_r_1 q1_r_2 H1_r q1_h_0 q1_h_1 q1_h_2 q1_h_3 q1_h_4 q1_h_5 q1_h_6 q1_h_7 q1_h_8 q1_h_9 H1_h
                have q5_r_0 := o5_r.cell (i := 0) rfl
                have q5_r_1 := o5_r.cell (i := 1) rfl
                have q5_r_2 := o5_r.cell (i := 2) rfl
                have l5_r := o5_r.lt
                have H5_r := hide o5_r
                clear o5_r
                have q5_h_0 := o5_h.cell (i := 0) rfl
                have q5_h_1 := o5_h.cell (i := 1) rfl
                have q5_h_2 := o5_h.cell (i := 2) rfl
                have q5_h_3 := o5_h.cell (i := 3) rfl
                have q5_h_4 := o5_h.cell (i := 4) rfl
                have q5_h_5 := o5_h.cell (i := 5) rfl
                have q5_h_6 := o5_h.cell (i := 6) rfl
                have q5_h_7 := o5_h.cell (i := 7) rfl
                have q5_h_8 := o5_h.cell (i := 8) rfl
                have q5_h_9 := o5_h.cell (i := 9) rfl
                have l5_h := o5_h.lt
                have H5_h := hide o5_h
                clear o5_h
                have hy5 : w.heap.size ≤ w5.heap.size := hB5.size
                clear hb5
                go_wp2
                go_meet
                case rel => exact ⟨by rw [← HRV.out]; simp [*], H5_r.out, H5_h.out, by go_grown⟩
          case rest =>
            obtain ⟨rfl, o_r, o_h, hbx⟩ := hcut
            clear q1_r_0 q1_r_1 q1_r_2 H1_r q1_h_0 q1_h_1 q1_h_2 q1_h_3 q1_h_4 q1_h_5 q1_h_6 q1_h_7 q1_h_8 q1_h_9 H1_h
            have p_r_0 := o_r.cell (i := 0) rfl
            have p_r_1 := o_r.cell (i := 1) rfl
            have p_r_2 := o_r.cell (i := 2) rfl
            have l_r := o_r.lt
            have O_r := hide o_r
            clear o_r
            have p_h_0 := o_h.cell (i := 0) rfl
            have p_h_1 := o_h.cell (i := 1) rfl
            have p_h_2 := o_h.cell (i := 2) rfl
            have p_h_3 := o_h.cell (i := 3) rfl
            have p_h_4 := o_h.cell (i := 4) rfl
            have p_h_5 := o_h.cell (i := 5) rfl
            have p_h_6 := o_h.cell (i := 6) rfl
            have p_h_7 := o_h.cell (i := 7) rfl
            have p_h_8 := o_h.cell (i := 8) rfl
            have p_h_9 := o_h.cell (i := 9) rfl
            have l_h := o_h.lt
            have O_h := hide o_h
            clear o_h
            have hyx : w.heap.size ≤ wc.heap.size := hbx.size
            go_wp2_with fail
            refine (CO.out _).mono ?_
            rintro e w31 ⟨rfl, hb31⟩
            have hB31 : Below w.heap.size w w31 := by
              refine Below.trans ?_ (Below.mono hb31 ?_)
              · go_grown
              · first | omega | (simp; done) | (simp; omega)
            have o31_r : ObjAt w31 (w.heap.size) 52 [.int .i64 e, .int .i64 k, .int .i64 o] := ObjAt.below (O_r.out) hb31
            have o31_h : ObjAt w31 (w.heap.size + 1) 69 [.int .i64 a, .int .i64 t0, .int .i64 t1, .int .i64 t2, .int .i64 t3, .int .i64 u0, .int .i64 u1, .int .i64 u2, .int .i64 u3, .string s] := ObjAt.below (O_h.out) hb31
            clear p_r_0 p_r_1 p_r_2 O_r p_h_0 p_h_1 p_h_2 p_h_3 p_h_4 p_h_5 p_h_6 p_h_7 p_h_8 p_h_9 O_h
            have q31_r_0 := o31_r.cell (i := 0) rfl
            have q31_r_1 := o31_r.cell (i := 1) rfl
            have q31_r_2 := o31_r.cell (i := 2) rfl
            have l31_r := o31_r.lt
            have H31_r := hide o31_r
            clear o31_r
            have q31_h_0 := o31_h.cell (i := 0) rfl
            have q31_h_1 := o31_h.cell (i := 1) rfl
            have q31_h_2 := o31_h.cell (i := 2) rfl
            have q31_h_3 := o31_h.cell (i := 3) rfl
            have q31_h_4 := o31_h.cell (i := 4) rfl
            have q31_h_5 := o31_h.cell (i := 5) rfl
            have q31_h_6 := o31_h.cell (i := 6) rfl
            have q31_h_7 := o31_h.cell (i := 7) rfl
            have q31_h_8 := o31_h.cell (i := 8) rfl
            have q31_h_9 := o31_h.cell (i := 9) rfl
            have l31_h := o31_h.lt
            have H31_h := hide o31_h
            clear o31_h
            have hy31 : w.heap.size ≤ w31.heap.size := hB31.size
            clear hb31
            go_wp2_with fail
            refine (CN.out _).mono ?_
            rintro e w532 ⟨rfl, rfl⟩
            by_cases h0 : nc = 0
            ·
              subst h0
              obtain ⟨rfl, hbb, rfl⟩ : n = nv ∧ b = earlyB nv ov s ∧ c = 0 := by have := HH.out; rw [if_neg (by simp)] at this; simp only [Prod.mk.injEq] at this; exact ⟨this.1.symm, this.2.1.symm, this.2.2.symm⟩
              have HBB := hide hbb
              clear hbb
              by_cases n1 : n = 1
              ·
                have tn : (n == 1) = true := by simp [n1]
                clear n1
                cases ov
                ·
                  go_wp2_with fail
                  go_quiet (fail)
                  go_wp2
                  exact bodyPost_ret (v := .tuple #[.int .i64 n, .bool false, .nilIface]) (by simp [results, Tryz.results105, go_sem, *] <;> omega) rfl ⟨by rw [HBB.out]; simp [earlyB, *] <;> (first | rfl | omega), bel_drewN hB31 _⟩
                ·
                  by_cases s0 : s.size = 0
                  ·
                    obtain rfl : s = ⟨#[]⟩ := ba_zero s0
                    go_wp2_with fail
                    go_quiet (fail)
                    go_wp2
                    exact bodyPost_ret (v := .tuple #[.int .i64 n, .bool false, .nilIface]) (by simp [results, Tryz.results105, go_sem, *] <;> omega) rfl ⟨by rw [HBB.out]; simp [earlyB, *] <;> (first | rfl | omega), bel_drewN hB31 _⟩
                  ·
                    have ts : s.toList.isEmpty = false := ba_isEmpty (by omega)
                    have sp : 0 < s.size := by omega
                    clear s0
                    by_cases s4 : s.size ≤ 40
                    ·
                      go_wp2_with fail
                      go_quiet (fail)
                      go_wp2
                      exact bodyPost_ret (v := .tuple #[.int .i64 n, .bool true, .nilIface]) (by simp [results, Tryz.results105, go_sem, *] <;> omega) rfl ⟨by rw [HBB.out]; simp [earlyB, *] <;> (first | rfl | omega), bel_drewN hB31 _⟩
                    ·
                      have s5 : 40 < s.size := by omega
                      go_wp2_with fail
                      go_quiet (fail)
                      go_wp2
                      exact bodyPost_ret (v := .tuple #[.int .i64 n, .bool false, .nilIface]) (by simp [results, Tryz.results105, go_sem, *] <;> omega) rfl ⟨by rw [HBB.out]; simp [earlyB, *] <;> (first | rfl | omega), bel_drewN hB31 _⟩
              ·
                have tn : (n == 1) = false := beq_eq_false_iff_ne.2 n1
                clear n1
                go_wp2_with fail
                go_quiet (fail)
                go_wp2
                exact bodyPost_ret (v := .tuple #[.int .i64 n, .bool false, .nilIface]) (by simp [results, Tryz.results105, go_sem, *] <;> omega) rfl ⟨by rw [HBB.out]; simp [earlyB, *] <;> (first | rfl | omega), bel_drewN hB31 _⟩
            ·
              have tnc : (nc != 0) = true := bne_iff_ne.2 h0
              obtain ⟨rfl, rfl, hcr⟩ : n = 0 ∧ b = false ∧ nc = c := by have := HH.out; rw [if_pos h0] at this; simp only [Prod.mk.injEq] at this; exact ⟨this.1.symm, this.2.1.symm, this.2.2⟩
              clear h0 HH
              subst hcr
              go_wp2
              exact bodyPost_ret (v := .tuple #[.int .i64 0, .bool false, errV nc]) (by simp [results, Tryz.results105, go_sem, *]) rfl ⟨rfl, by go_grown⟩
  · obtain ⟨rc, hrc⟩ : ∃ c, ringE e k o = c := ⟨_, rfl⟩
    have C := hide (fun W => ringCheck_eq hrc W)
    obtain ⟨rfl, rfl, hcr⟩ : n = 0 ∧ b = false ∧ rc = c := by unfold ansN at h; rw [if_pos hr] at h; simp only [Prod.mk.injEq] at h; exact ⟨h.1.symm, h.2.1.symm, by rw [← hrc]; exact h.2.2⟩
    subst hcr
    rw [hrc] at hr
    have trc : (rc != 0) = true := bne_iff_ne.2 hr
    clear h hrc hr
    go_enter Tryz.func105, Tryz.ntmps105
    go_wp2_with fail
    refine (C.out _).mono ?_
    rintro e w1 ⟨rfl, hb1⟩
    have hB1 : Below w.heap.size w w1 := by
      refine Below.trans ?_ (Below.mono hb1 ?_)
      · go_grown
      · first | omega | (simp; done) | (simp; omega)
    have o1_r : ObjAt w1 (w.heap.size) 52 [.int .i64 e, .int .i64 k, .int .i64 o] := ObjAt.below (ObjAt.alloc (objNew (by simp)) _) hb1
    have o1_h : ObjAt w1 (w.heap.size + 1) 69 [.int .i64 a, .int .i64 t0, .int .i64 t1, .int .i64 t2, .int .i64 t3, .int .i64 u0, .int .i64 u1, .int .i64 u2, .int .i64 u3, .string s] := ObjAt.below (objNew (by simp)) hb1
    have q1_r_0 := o1_r.cell (i := 0) rfl
    have q1_r_1 := o1_r.cell (i := 1) rfl
    have q1_r_2 := o1_r.cell (i := 2) rfl
    have l1_r := o1_r.lt
    have H1_r := hide o1_r
    clear o1_r
    have q1_h_0 := o1_h.cell (i := 0) rfl
    have q1_h_1 := o1_h.cell (i := 1) rfl
    have q1_h_2 := o1_h.cell (i := 2) rfl
    have q1_h_3 := o1_h.cell (i := 3) rfl
    have q1_h_4 := o1_h.cell (i := 4) rfl
    have q1_h_5 := o1_h.cell (i := 5) rfl
    have q1_h_6 := o1_h.cell (i := 6) rfl
    have q1_h_7 := o1_h.cell (i := 7) rfl
    have q1_h_8 := o1_h.cell (i := 8) rfl
    have q1_h_9 := o1_h.cell (i := 9) rfl
    have l1_h := o1_h.lt
    have H1_h := hide o1_h
    clear o1_h
    have hy1 : w.heap.size ≤ w1.heap.size := hB1.size
    clear hb1
    go_wp2
    exact bodyPost_ret (v := .tuple #[.int .i64 0, .bool false, errV rc]) (by simp [results, Tryz.results105, go_sem, *]) rfl ⟨rfl, by go_grown⟩
end Go.Proofs.YtlnghfmcofmkjaaGreatDoor
