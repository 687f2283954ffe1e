/- The walk of SpentTells. -/
import Derived.Test.YtfehnfbmlomccaaDoorSpHas
import Derived.Test.YtfehnfbmlomccaaDoorRSpents
import Derived.Test.YtfehnfbmlomccaaDoorRSpend
import Derived.Test.YtfehnfbmlomccaaDoorOpen
import Derived.Test.YtfehnfbmlomccaaDoorErr
namespace Go.Proofs.YtfehnfbmlomccaaDoor
open Go.RowKit

theorem psl_row {w : World} {a : Option Addr} {len cap : Nat} {zs : List (Int × Int)} (hr : PairRow w a len zs) (hc : len ≤ cap) (hl : len ≤ 1000) : PSl w (.slice a len cap) zs := by
  obtain ⟨h1, _, _, h4⟩ := hr
  subst h1
  refine ⟨hl, ?_⟩
  rcases h4 with h | ⟨b, off, rfl, hlt, hcell⟩
  · exact .inl ⟨List.eq_nil_of_length_eq_zero h, a, cap, by rw [h]⟩
  · refine .inr ⟨b, off, cap, rfl, hc, hlt, fun j hj => ?_⟩
    have q0 := hcell j 0 hj (by decide)
    have q1 := hcell j 1 hj (by decide)
    exact ⟨by simpa using q0, by simpa using q1⟩
/-- the reference tells the fault c of v, now and later -/
def RsBad (v : Value) (c : Int) (w : World) : Prop := ∀ W, Below w.heap.size w W → Calls Tryd.prog 30 #[v] W fun e w' => e = .returned (.int .i64 c) ∧ Below W.heap.size W w'
theorem rsBad_long {a : Option Addr} {n c : Nat} (w : World) (h : 16 < n) (hm : n ≤ maxLen) : RsBad (.slice a n c) 4 w := by
  intro W _
  unfold maxLen at hm
  go_enter Tryd.func30, Tryd.ntmps30
  go_wp2
  go_ret
  exact ⟨rfl, Below.refl _ _⟩
theorem spMore_out {zs : List (Int × Int)} {n u now : Int} (hn : inB n = false) : spMoreE zs n u now ≠ 0 := by
  intro h
  obtain ⟨_, h1, _⟩ := (spMore_cases zs n u now).resolve_right (fun hx => hx h)
  rw [hn] at h1; cases h1
theorem st_same {w w' w'' : World} {v1 v2 : Value} {zs : List (Int × Int)} (h1 : PSl w v1 zs) (hb : Below w.heap.size w w'') (h2 : PSl w' v2 zs) (hb2 : Below w'.heap.size w' w'') : Calls Tryd.prog 33 #[v1, v2] w'' fun e w' => e = .returned (.bool true) ∧ Below w''.heap.size w'' w' :=
  sameSpent w'' (h1.below hb) (h2.below hb2)
theorem psl_0 (w : World) : PSl w (.slice none 0 0) [] := ⟨by simp, .inl ⟨rfl, none, 0, rfl⟩⟩
theorem rSpend_okS {n u now : Int} {zs ns : List (Int × Int)} (hn : spDrop zs now ++ [(n, u)] = ns) (h16 : zs.length ≤ 16) (hc : spMoreE zs n u now = 0) (v : Value) (w : World) (hv : PSl w v zs) :
    Calls Tryd.prog 24 #[v, .int .i64 n, .int .i64 u, .int .i64 now] w fun e w' => ∃ v', e = .returned (.tuple #[v', .int .i64 0]) ∧ PSl w' v' ns ∧ Below w.heap.size w w' := by
  subst hn
  refine (rSpend_ok h16 hc v w hv).mono ?_
  rintro e w' ⟨v', rfl, hown, hb⟩
  have := spDrop_le zs now
  exact ⟨v', rfl, own_psl hown (by simp; omega), hb⟩
theorem spSpend_okS {n u now : Int} {zs ns : List (Int × Int)} (hn : spDrop zs now ++ [(n, u)] = ns) (h16 : zs.length ≤ 16) (h : spE zs = 0) (hc : spMoreE zs n u now = 0) (v : Value) (w : World) (hv : PSl w v zs) :
    Calls Tryd.prog 32 #[v, .int .i64 n, .int .i64 u, .int .i64 now] w fun e w' => ∃ v', e = .returned (.tuple #[v', .nilIface]) ∧ PSl w' v' ns ∧ Below w.heap.size w w' := by
  subst hn
  refine (spSpend_ok h hc v w hv).mono ?_
  rintro e w' ⟨v', rfl, hown, hb⟩
  have := spDrop_le zs now
  exact ⟨v', rfl, own_psl hown (by simp; omega), hb⟩
theorem rDropS {now : Int} {zs ns : List (Int × Int)} (hn : spDrop zs now = ns) (h16 : zs.length ≤ 16) (v : Value) (w : World) (hv : PSl w v zs) :
    Calls Tryd.prog 36 #[v, .int .i64 now] w fun e w' => ∃ v', e = .returned v' ∧ PSl w' v' ns ∧ Below w.heap.size w w' := by
  subst hn
  refine (rDrop now v zs w hv).mono ?_
  rintro e w' ⟨v', rfl, hown, hb⟩
  have := spDrop_le zs now
  exact ⟨v', rfl, own_psl hown (by omega), hb⟩
theorem spDropS {now : Int} {zs ns : List (Int × Int)} (hn : spDrop zs now = ns) (h : spE zs = 0) (ht : tmB now = true) (v : Value) (w : World) (hv : PSl w v zs) :
    Calls Tryd.prog 37 #[v, .int .i64 now] w fun e w' => ∃ v', e = .returned (.tuple #[v', .nilIface]) ∧ PSl w' v' ns ∧ Below w.heap.size w w' := by
  subst hn
  exact spDrop_ok h ht v w hv
set_option maxRecDepth 100000 in
set_option maxHeartbeats 8000000 in
theorem stFault {v : Value} {c : Int} (w : World) (H1 : SpBad v c w) (H2 : RsBad v c w) (h0 : c ≠ 0) (n u now : Int) (hE : ErrT w) :
    Calls Tryd.prog 7 #[v, .int .i64 n, .int .i64 u, .int .i64 now] w fun e w' => e = .returned (.bool true) ∧ Below w.heap.size w w' := by
  have t0 : (c == 0) = false := beq_eq_false_iff_ne.2 h0
  have K1 := hide H1
  have K2 := hide H2
  clear H1 H2
  have hB0 : Below w.heap.size w w := Below.refl _ _
  go_enter Tryd.func7, Tryd.ntmps7
  go_wp2_with fail
  refine (K2.out _ hB0).mono ?_
  rintro e w1 ⟨rfl, hb1⟩
  have hB1 : Below w.heap.size w w1 := hB0.trans (hb1.mono hB0.size)
  clear hb1
  go_wp2_with fail
  refine (K1.out _ hB1).mono ?_
  rintro e w2 ⟨rfl, hb2⟩
  have hB2 : Below w.heap.size w w2 := hB1.trans (hb2.mono hB1.size)
  clear hb2
  go_wp2_with fail
  refine (error_any (c) (c) _ (hE.below (B := w.heap.size) hB2 hE.pos)).mono ?_
  rintro e w3 ⟨rfl, hb3⟩
  have hB3 : Below w.heap.size w w3 := hB2.trans (hb3.mono hB2.size)
  clear hb3
  go_wp2_with fail
  refine (spSpend_f _ (K1.out.below hB3) h0).mono ?_
  rintro e w4 ⟨rfl, hb4⟩
  have hB4 : Below w.heap.size w w4 := hB3.trans (hb4.mono hB3.size)
  clear hb4
  go_wp2_with fail
  refine (error_any (c) (c) _ (hE.below (B := w.heap.size) hB4 hE.pos)).mono ?_
  rintro e w5 ⟨rfl, hb5⟩
  have hB5 : Below w.heap.size w w5 := hB4.trans (hb5.mono hB4.size)
  clear hb5
  go_wp2_with fail
  refine (sameSpent _ (psl_0 _) (psl_0 _)).mono ?_
  rintro e w6 ⟨rfl, hb6⟩
  have hB6 : Below w.heap.size w w6 := hB5.trans (hb6.mono hB5.size)
  clear hb6
  go_wp2_with fail
  refine (rIn_eq (rfl : inB n = inB n) _).mono ?_
  rintro e w500 ⟨rfl, rfl⟩
  go_wp2_with fail
  refine (spHas_f _ (K1.out.below hB6) h0).mono ?_
  rintro e w7 ⟨rfl, hb7⟩
  have hB7 : Below w.heap.size w w7 := hB6.trans (hb7.mono hB6.size)
  clear hb7
  go_wp2_with fail
  refine (error_any (c) (c) _ (hE.below (B := w.heap.size) hB7 hE.pos)).mono ?_
  rintro e w8 ⟨rfl, hb8⟩
  have hB8 : Below w.heap.size w w8 := hB7.trans (hb8.mono hB7.size)
  clear hb8
  go_wp2_with fail
  refine (rTime_eq (rfl : tmB now = tmB now) _).mono ?_
  rintro e w500 ⟨rfl, rfl⟩
  go_wp2_with fail
  refine (spDrop_f _ (K1.out.below hB8) h0).mono ?_
  rintro e w9 ⟨rfl, hb9⟩
  have hB9 : Below w.heap.size w w9 := hB8.trans (hb9.mono hB8.size)
  clear hb9
  go_wp2_with fail
  refine (error_any (c) (c) _ (hE.below (B := w.heap.size) hB9 hE.pos)).mono ?_
  rintro e w10 ⟨rfl, hb10⟩
  have hB10 : Below w.heap.size w w10 := hB9.trans (hb10.mono hB9.size)
  clear hb10
  go_wp2_with fail
  refine (sameSpent _ (psl_0 _) (psl_0 _)).mono ?_
  rintro e w11 ⟨rfl, hb11⟩
  have hB11 : Below w.heap.size w w11 := hB10.trans (hb11.mono hB10.size)
  clear hb11
  go_wp2
  go_ret
  exact ⟨rfl, hB11⟩
set_option maxRecDepth 100000 in
set_option maxHeartbeats 8000000 in
theorem stGood {v : Value} {zs : List (Int × Int)} (w : World) (hv : PSl w v zs) (h16 : zs.length ≤ 16) (hs : spE zs = 0) (n u now : Int) (hE : ErrT w) :
    Calls Tryd.prog 7 #[v, .int .i64 n, .int .i64 u, .int .i64 now] w fun e w' => e = .returned (.bool true) ∧ Below w.heap.size w w' := by
  have K2 : Hid (∀ W, Below w.heap.size w W → Calls Tryd.prog 30 #[v] W fun e w' => e = .returned (.int .i64 0) ∧ Below W.heap.size W w') := hide (fun W hW => rSpents hs v W (hv.below hW))
  have K1 : Hid (∀ W, Below w.heap.size w W → Calls Tryd.prog 31 #[v] W fun e w' => e = .returned .nilIface ∧ Below W.heap.size W w') := hide (fun W hW => spCheck0 hs v W (hv.below hW))
  obtain ⟨c, hc⟩ : ∃ c, spMoreE zs n u now = c := ⟨_, rfl⟩
  obtain ⟨m, hm⟩ : ∃ m, spDrop zs now ++ [(n, u)] = m := ⟨_, rfl⟩
  obtain ⟨d, hd⟩ : ∃ d, spDrop zs now = d := ⟨_, rfl⟩
  obtain ⟨q, hq⟩ : ∃ q, zs.any (fun x => x.1 == n) = q := ⟨_, rfl⟩
  have HV := hide hv
  have HM := hide hm
  have HD := hide hd
  have HQ := hide hq
  have H16 := hide h16
  have HS := hide hs
  have HC := hide hc
  clear hv hm hd hq h16 hs hc
  have hB0 : Below w.heap.size w w := Below.refl _ _
  by_cases h0 : c = 0
  ·
    subst h0
    obtain ⟨_, hin, _, htm, _⟩ := (spMore_cases zs n u now).resolve_right (fun hx => hx HC.out)
    go_enter Tryd.func7, Tryd.ntmps7
    go_wp2_with fail
    refine (K2.out _ hB0).mono ?_
    rintro e w1 ⟨rfl, hb1⟩
    have hB1 : Below w.heap.size w w1 := hB0.trans (hb1.mono hB0.size)
    clear hb1
    go_wp2_with fail
    refine (K1.out _ hB1).mono ?_
    rintro e w2 ⟨rfl, hb2⟩
    have hB2 : Below w.heap.size w w2 := hB1.trans (hb2.mono hB1.size)
    clear hb2
    go_wp2_with fail
    refine (error_any (0) (0) _ (hE.below (B := w.heap.size) hB2 hE.pos)).mono ?_
    rintro e w3 ⟨rfl, hb3⟩
    have hB3 : Below w.heap.size w w3 := hB2.trans (hb3.mono hB2.size)
    clear hb3
    go_wp2_with fail
    refine (rSpend_okS HM.out H16.out HC.out _ _ (HV.out.below hB3)).mono ?_
    rintro e w4 ⟨vx, rfl, hp4, hb4⟩
    have Px := hide hp4
    have hB4 : Below w.heap.size w w4 := hB3.trans (hb4.mono hB3.size)
    have Rx : Below w4.heap.size w4 w4 := Below.refl _ _
    clear hp4
    go_wp2_with fail
    refine (spSpend_okS HM.out H16.out HS.out HC.out _ _ (HV.out.below hB4)).mono ?_
    rintro e w5 ⟨vy, rfl, hp5, hb5⟩
    have Py := hide hp5
    have hB5 : Below w.heap.size w w5 := hB4.trans (hb5.mono hB4.size)
    have Ry : Below w5.heap.size w5 w5 := Below.refl _ _
    clear hp5
    go_wp2_with fail
    refine (error_any (0) (0) _ (hE.below (B := w.heap.size) hB5 hE.pos)).mono ?_
    rintro e w6 ⟨rfl, hb6⟩
    have hB6 : Below w.heap.size w w6 := hB5.trans (hb6.mono hB5.size)
    go_wp2_with fail
    refine (st_same Py.out (hb6) Px.out ((hb5).trans (hb6.mono (hb5).size))).mono ?_
    rintro e w7 ⟨rfl, hb7⟩
    have hB7 : Below w.heap.size w w7 := hB6.trans (hb7.mono hB6.size)
    go_wp2_with fail
    refine (rIn_eq hin _).mono ?_
    rintro e w500 ⟨rfl, rfl⟩
    have RH : Hid (∀ W, Below w.heap.size w W → Calls Tryd.prog 29 #[v, .int .i64 n] W fun e w' => e = .returned (.bool q) ∧ W = w') := hide (fun W hW => by have := rHas n v zs W (HV.out.below hW); rwa [HQ.out] at this)
    go_wp2_with fail
    refine (RH.out _ hB7).mono ?_
    rintro e w500 ⟨rfl, rfl⟩
    go_wp2_with fail
    refine (spHas_in HS.out hin HQ.out _ _ (HV.out.below hB7)).mono ?_
    rintro e w8 ⟨rfl, hb8⟩
    have hB8 : Below w.heap.size w w8 := hB7.trans (hb8.mono hB7.size)
    go_wp2_with fail
    refine (error_any (0) (0) _ (hE.below (B := w.heap.size) hB8 hE.pos)).mono ?_
    rintro e w9 ⟨rfl, hb9⟩
    have hB9 : Below w.heap.size w w9 := hB8.trans (hb9.mono hB8.size)
    go_wp2_with fail
    refine (rTime_eq htm _).mono ?_
    rintro e w500 ⟨rfl, rfl⟩
    go_wp2_with fail
    refine (rDropS HD.out H16.out _ _ (HV.out.below hB9)).mono ?_
    rintro e w10 ⟨va, rfl, hp10, hb10⟩
    have Pa := hide hp10
    have hB10 : Below w.heap.size w w10 := hB9.trans (hb10.mono hB9.size)
    have Ra : Below w10.heap.size w10 w10 := Below.refl _ _
    clear hp10
    go_wp2_with fail
    refine (spDropS HD.out HS.out htm _ _ (HV.out.below hB10)).mono ?_
    rintro e w11 ⟨vb, rfl, hp11, hb11⟩
    have Pb := hide hp11
    have hB11 : Below w.heap.size w w11 := hB10.trans (hb11.mono hB10.size)
    have Rb : Below w11.heap.size w11 w11 := Below.refl _ _
    clear hp11
    go_wp2_with fail
    refine (error_any (0) (0) _ (hE.below (B := w.heap.size) hB11 hE.pos)).mono ?_
    rintro e w12 ⟨rfl, hb12⟩
    have hB12 : Below w.heap.size w w12 := hB11.trans (hb12.mono hB11.size)
    go_wp2_with fail
    refine (st_same Pb.out (hb12) Pa.out ((hb11).trans (hb12.mono (hb11).size))).mono ?_
    rintro e w13 ⟨rfl, hb13⟩
    have hB13 : Below w.heap.size w w13 := hB12.trans (hb13.mono hB12.size)
    go_wp2
    go_ret
    exact ⟨rfl, hB13⟩
  · cases hin : inB n
    · cases htm : tmB now
      ·
        go_enter Tryd.func7, Tryd.ntmps7
        go_wp2_with fail
        refine (K2.out _ hB0).mono ?_
        rintro e w1 ⟨rfl, hb1⟩
        have hB1 : Below w.heap.size w w1 := hB0.trans (hb1.mono hB0.size)
        clear hb1
        go_wp2_with fail
        refine (K1.out _ hB1).mono ?_
        rintro e w2 ⟨rfl, hb2⟩
        have hB2 : Below w.heap.size w w2 := hB1.trans (hb2.mono hB1.size)
        clear hb2
        go_wp2_with fail
        refine (error_any (0) (0) _ (hE.below (B := w.heap.size) hB2 hE.pos)).mono ?_
        rintro e w3 ⟨rfl, hb3⟩
        have hB3 : Below w.heap.size w w3 := hB2.trans (hb3.mono hB2.size)
        clear hb3
        go_wp2_with fail
        refine (rSpend_bad H16.out HC.out h0 _ _ (HV.out.below hB3)).mono ?_
        rintro e w4 ⟨rfl, hb4⟩
        have hB4 : Below w.heap.size w w4 := hB3.trans (hb4.mono hB3.size)
        go_wp2_with fail
        refine (spSpend_bad HS.out HC.out h0 _ _ (HV.out.below hB4)).mono ?_
        rintro e w5 ⟨rfl, hb5⟩
        have hB5 : Below w.heap.size w w5 := hB4.trans (hb5.mono hB4.size)
        go_wp2_with fail
        refine (error_any (c) (c) _ (hE.below (B := w.heap.size) hB5 hE.pos)).mono ?_
        rintro e w6 ⟨rfl, hb6⟩
        have hB6 : Below w.heap.size w w6 := hB5.trans (hb6.mono hB5.size)
        go_wp2_with fail
        refine (sameSpent _ (psl_0 _) (psl_0 _)).mono ?_
        rintro e w7 ⟨rfl, hb7⟩
        have hB7 : Below w.heap.size w w7 := hB6.trans (hb7.mono hB6.size)
        go_wp2_with fail
        refine (rIn_eq hin _).mono ?_
        rintro e w500 ⟨rfl, rfl⟩
        go_wp2_with fail
        refine (spHas_out HS.out hin _ _ (HV.out.below hB7)).mono ?_
        rintro e w8 ⟨rfl, hb8⟩
        have hB8 : Below w.heap.size w w8 := hB7.trans (hb8.mono hB7.size)
        go_wp2_with fail
        refine (error_any (1) (1) _ (hE.below (B := w.heap.size) hB8 hE.pos)).mono ?_
        rintro e w9 ⟨rfl, hb9⟩
        have hB9 : Below w.heap.size w w9 := hB8.trans (hb9.mono hB8.size)
        go_wp2_with fail
        refine (rTime_eq htm _).mono ?_
        rintro e w500 ⟨rfl, rfl⟩
        go_wp2_with fail
        refine (spDrop_bad HS.out htm _ _ (HV.out.below hB9)).mono ?_
        rintro e w10 ⟨rfl, hb10⟩
        have hB10 : Below w.heap.size w w10 := hB9.trans (hb10.mono hB9.size)
        go_wp2_with fail
        refine (error_any (1) (1) _ (hE.below (B := w.heap.size) hB10 hE.pos)).mono ?_
        rintro e w11 ⟨rfl, hb11⟩
        have hB11 : Below w.heap.size w w11 := hB10.trans (hb11.mono hB10.size)
        go_wp2_with fail
        refine (sameSpent _ (psl_0 _) (psl_0 _)).mono ?_
        rintro e w12 ⟨rfl, hb12⟩
        have hB12 : Below w.heap.size w w12 := hB11.trans (hb12.mono hB11.size)
        go_wp2
        go_ret
        exact ⟨rfl, hB12⟩
      ·
        go_enter Tryd.func7, Tryd.ntmps7
        go_wp2_with fail
        refine (K2.out _ hB0).mono ?_
        rintro e w1 ⟨rfl, hb1⟩
        have hB1 : Below w.heap.size w w1 := hB0.trans (hb1.mono hB0.size)
        clear hb1
        go_wp2_with fail
        refine (K1.out _ hB1).mono ?_
        rintro e w2 ⟨rfl, hb2⟩
        have hB2 : Below w.heap.size w w2 := hB1.trans (hb2.mono hB1.size)
        clear hb2
        go_wp2_with fail
        refine (error_any (0) (0) _ (hE.below (B := w.heap.size) hB2 hE.pos)).mono ?_
        rintro e w3 ⟨rfl, hb3⟩
        have hB3 : Below w.heap.size w w3 := hB2.trans (hb3.mono hB2.size)
        clear hb3
        go_wp2_with fail
        refine (rSpend_bad H16.out HC.out h0 _ _ (HV.out.below hB3)).mono ?_
        rintro e w4 ⟨rfl, hb4⟩
        have hB4 : Below w.heap.size w w4 := hB3.trans (hb4.mono hB3.size)
        go_wp2_with fail
        refine (spSpend_bad HS.out HC.out h0 _ _ (HV.out.below hB4)).mono ?_
        rintro e w5 ⟨rfl, hb5⟩
        have hB5 : Below w.heap.size w w5 := hB4.trans (hb5.mono hB4.size)
        go_wp2_with fail
        refine (error_any (c) (c) _ (hE.below (B := w.heap.size) hB5 hE.pos)).mono ?_
        rintro e w6 ⟨rfl, hb6⟩
        have hB6 : Below w.heap.size w w6 := hB5.trans (hb6.mono hB5.size)
        go_wp2_with fail
        refine (sameSpent _ (psl_0 _) (psl_0 _)).mono ?_
        rintro e w7 ⟨rfl, hb7⟩
        have hB7 : Below w.heap.size w w7 := hB6.trans (hb7.mono hB6.size)
        go_wp2_with fail
        refine (rIn_eq hin _).mono ?_
        rintro e w500 ⟨rfl, rfl⟩
        go_wp2_with fail
        refine (spHas_out HS.out hin _ _ (HV.out.below hB7)).mono ?_
        rintro e w8 ⟨rfl, hb8⟩
        have hB8 : Below w.heap.size w w8 := hB7.trans (hb8.mono hB7.size)
        go_wp2_with fail
        refine (error_any (1) (1) _ (hE.below (B := w.heap.size) hB8 hE.pos)).mono ?_
        rintro e w9 ⟨rfl, hb9⟩
        have hB9 : Below w.heap.size w w9 := hB8.trans (hb9.mono hB8.size)
        go_wp2_with fail
        refine (rTime_eq htm _).mono ?_
        rintro e w500 ⟨rfl, rfl⟩
        go_wp2_with fail
        refine (rDropS HD.out H16.out _ _ (HV.out.below hB9)).mono ?_
        rintro e w10 ⟨va, rfl, hp10, hb10⟩
        have Pa := hide hp10
        have hB10 : Below w.heap.size w w10 := hB9.trans (hb10.mono hB9.size)
        have Ra : Below w10.heap.size w10 w10 := Below.refl _ _
        clear hp10
        go_wp2_with fail
        refine (spDropS HD.out HS.out htm _ _ (HV.out.below hB10)).mono ?_
        rintro e w11 ⟨vb, rfl, hp11, hb11⟩
        have Pb := hide hp11
        have hB11 : Below w.heap.size w w11 := hB10.trans (hb11.mono hB10.size)
        have Rb : Below w11.heap.size w11 w11 := Below.refl _ _
        clear hp11
        go_wp2_with fail
        refine (error_any (0) (0) _ (hE.below (B := w.heap.size) hB11 hE.pos)).mono ?_
        rintro e w12 ⟨rfl, hb12⟩
        have hB12 : Below w.heap.size w w12 := hB11.trans (hb12.mono hB11.size)
        go_wp2_with fail
        refine (st_same Pb.out (hb12) Pa.out ((hb11).trans (hb12.mono (hb11).size))).mono ?_
        rintro e w13 ⟨rfl, hb13⟩
        have hB13 : Below w.heap.size w w13 := hB12.trans (hb13.mono hB12.size)
        go_wp2
        go_ret
        exact ⟨rfl, hB13⟩
    · cases htm : tmB now
      ·
        go_enter Tryd.func7, Tryd.ntmps7
        go_wp2_with fail
        refine (K2.out _ hB0).mono ?_
        rintro e w1 ⟨rfl, hb1⟩
        have hB1 : Below w.heap.size w w1 := hB0.trans (hb1.mono hB0.size)
        clear hb1
        go_wp2_with fail
        refine (K1.out _ hB1).mono ?_
        rintro e w2 ⟨rfl, hb2⟩
        have hB2 : Below w.heap.size w w2 := hB1.trans (hb2.mono hB1.size)
        clear hb2
        go_wp2_with fail
        refine (error_any (0) (0) _ (hE.below (B := w.heap.size) hB2 hE.pos)).mono ?_
        rintro e w3 ⟨rfl, hb3⟩
        have hB3 : Below w.heap.size w w3 := hB2.trans (hb3.mono hB2.size)
        clear hb3
        go_wp2_with fail
        refine (rSpend_bad H16.out HC.out h0 _ _ (HV.out.below hB3)).mono ?_
        rintro e w4 ⟨rfl, hb4⟩
        have hB4 : Below w.heap.size w w4 := hB3.trans (hb4.mono hB3.size)
        go_wp2_with fail
        refine (spSpend_bad HS.out HC.out h0 _ _ (HV.out.below hB4)).mono ?_
        rintro e w5 ⟨rfl, hb5⟩
        have hB5 : Below w.heap.size w w5 := hB4.trans (hb5.mono hB4.size)
        go_wp2_with fail
        refine (error_any (c) (c) _ (hE.below (B := w.heap.size) hB5 hE.pos)).mono ?_
        rintro e w6 ⟨rfl, hb6⟩
        have hB6 : Below w.heap.size w w6 := hB5.trans (hb6.mono hB5.size)
        go_wp2_with fail
        refine (sameSpent _ (psl_0 _) (psl_0 _)).mono ?_
        rintro e w7 ⟨rfl, hb7⟩
        have hB7 : Below w.heap.size w w7 := hB6.trans (hb7.mono hB6.size)
        go_wp2_with fail
        refine (rIn_eq hin _).mono ?_
        rintro e w500 ⟨rfl, rfl⟩
        have RH : Hid (∀ W, Below w.heap.size w W → Calls Tryd.prog 29 #[v, .int .i64 n] W fun e w' => e = .returned (.bool q) ∧ W = w') := hide (fun W hW => by have := rHas n v zs W (HV.out.below hW); rwa [HQ.out] at this)
        go_wp2_with fail
        refine (RH.out _ hB7).mono ?_
        rintro e w500 ⟨rfl, rfl⟩
        go_wp2_with fail
        refine (spHas_in HS.out hin HQ.out _ _ (HV.out.below hB7)).mono ?_
        rintro e w8 ⟨rfl, hb8⟩
        have hB8 : Below w.heap.size w w8 := hB7.trans (hb8.mono hB7.size)
        go_wp2_with fail
        refine (error_any (0) (0) _ (hE.below (B := w.heap.size) hB8 hE.pos)).mono ?_
        rintro e w9 ⟨rfl, hb9⟩
        have hB9 : Below w.heap.size w w9 := hB8.trans (hb9.mono hB8.size)
        go_wp2_with fail
        refine (rTime_eq htm _).mono ?_
        rintro e w500 ⟨rfl, rfl⟩
        go_wp2_with fail
        refine (spDrop_bad HS.out htm _ _ (HV.out.below hB9)).mono ?_
        rintro e w10 ⟨rfl, hb10⟩
        have hB10 : Below w.heap.size w w10 := hB9.trans (hb10.mono hB9.size)
        go_wp2_with fail
        refine (error_any (1) (1) _ (hE.below (B := w.heap.size) hB10 hE.pos)).mono ?_
        rintro e w11 ⟨rfl, hb11⟩
        have hB11 : Below w.heap.size w w11 := hB10.trans (hb11.mono hB10.size)
        go_wp2_with fail
        refine (sameSpent _ (psl_0 _) (psl_0 _)).mono ?_
        rintro e w12 ⟨rfl, hb12⟩
        have hB12 : Below w.heap.size w w12 := hB11.trans (hb12.mono hB11.size)
        go_wp2
        go_ret
        exact ⟨rfl, hB12⟩
      ·
        go_enter Tryd.func7, Tryd.ntmps7
        go_wp2_with fail
        refine (K2.out _ hB0).mono ?_
        rintro e w1 ⟨rfl, hb1⟩
        have hB1 : Below w.heap.size w w1 := hB0.trans (hb1.mono hB0.size)
        clear hb1
        go_wp2_with fail
        refine (K1.out _ hB1).mono ?_
        rintro e w2 ⟨rfl, hb2⟩
        have hB2 : Below w.heap.size w w2 := hB1.trans (hb2.mono hB1.size)
        clear hb2
        go_wp2_with fail
        refine (error_any (0) (0) _ (hE.below (B := w.heap.size) hB2 hE.pos)).mono ?_
        rintro e w3 ⟨rfl, hb3⟩
        have hB3 : Below w.heap.size w w3 := hB2.trans (hb3.mono hB2.size)
        clear hb3
        go_wp2_with fail
        refine (rSpend_bad H16.out HC.out h0 _ _ (HV.out.below hB3)).mono ?_
        rintro e w4 ⟨rfl, hb4⟩
        have hB4 : Below w.heap.size w w4 := hB3.trans (hb4.mono hB3.size)
        go_wp2_with fail
        refine (spSpend_bad HS.out HC.out h0 _ _ (HV.out.below hB4)).mono ?_
        rintro e w5 ⟨rfl, hb5⟩
        have hB5 : Below w.heap.size w w5 := hB4.trans (hb5.mono hB4.size)
        go_wp2_with fail
        refine (error_any (c) (c) _ (hE.below (B := w.heap.size) hB5 hE.pos)).mono ?_
        rintro e w6 ⟨rfl, hb6⟩
        have hB6 : Below w.heap.size w w6 := hB5.trans (hb6.mono hB5.size)
        go_wp2_with fail
        refine (sameSpent _ (psl_0 _) (psl_0 _)).mono ?_
        rintro e w7 ⟨rfl, hb7⟩
        have hB7 : Below w.heap.size w w7 := hB6.trans (hb7.mono hB6.size)
        go_wp2_with fail
        refine (rIn_eq hin _).mono ?_
        rintro e w500 ⟨rfl, rfl⟩
        have RH : Hid (∀ W, Below w.heap.size w W → Calls Tryd.prog 29 #[v, .int .i64 n] W fun e w' => e = .returned (.bool q) ∧ W = w') := hide (fun W hW => by have := rHas n v zs W (HV.out.below hW); rwa [HQ.out] at this)
        go_wp2_with fail
        refine (RH.out _ hB7).mono ?_
        rintro e w500 ⟨rfl, rfl⟩
        go_wp2_with fail
        refine (spHas_in HS.out hin HQ.out _ _ (HV.out.below hB7)).mono ?_
        rintro e w8 ⟨rfl, hb8⟩
        have hB8 : Below w.heap.size w w8 := hB7.trans (hb8.mono hB7.size)
        go_wp2_with fail
        refine (error_any (0) (0) _ (hE.below (B := w.heap.size) hB8 hE.pos)).mono ?_
        rintro e w9 ⟨rfl, hb9⟩
        have hB9 : Below w.heap.size w w9 := hB8.trans (hb9.mono hB8.size)
        go_wp2_with fail
        refine (rTime_eq htm _).mono ?_
        rintro e w500 ⟨rfl, rfl⟩
        go_wp2_with fail
        refine (rDropS HD.out H16.out _ _ (HV.out.below hB9)).mono ?_
        rintro e w10 ⟨va, rfl, hp10, hb10⟩
        have Pa := hide hp10
        have hB10 : Below w.heap.size w w10 := hB9.trans (hb10.mono hB9.size)
        have Ra : Below w10.heap.size w10 w10 := Below.refl _ _
        clear hp10
        go_wp2_with fail
        refine (spDropS HD.out HS.out htm _ _ (HV.out.below hB10)).mono ?_
        rintro e w11 ⟨vb, rfl, hp11, hb11⟩
        have Pb := hide hp11
        have hB11 : Below w.heap.size w w11 := hB10.trans (hb11.mono hB10.size)
        have Rb : Below w11.heap.size w11 w11 := Below.refl _ _
        clear hp11
        go_wp2_with fail
        refine (error_any (0) (0) _ (hE.below (B := w.heap.size) hB11 hE.pos)).mono ?_
        rintro e w12 ⟨rfl, hb12⟩
        have hB12 : Below w.heap.size w w12 := hB11.trans (hb12.mono hB11.size)
        go_wp2_with fail
        refine (st_same Pb.out (hb12) Pa.out ((hb11).trans (hb12.mono (hb11).size))).mono ?_
        rintro e w13 ⟨rfl, hb13⟩
        have hB13 : Below w.heap.size w w13 := hB12.trans (hb13.mono hB12.size)
        go_wp2
        go_ret
        exact ⟨rfl, hB13⟩
theorem walkSpentTells (w : World) (a : Option Addr) (len cap : Nat) (zz : List (Int × Int)) (hl : len ≤ cap) (_hc : cap ≤ maxLen) (hr : PairRow w a len zz) (n : Int) (_w0 : (Lit.int .i64 n).wf = true) (u : Int) (_w1 : (Lit.int .i64 u).wf = true) (now : Int) (_w2 : (Lit.int .i64 now).wf = true) (hE : ErrT w) :
    Calls Tryd.prog 7 #[.slice a len cap, .int .i64 n, .int .i64 u, .int .i64 now] w fun e w' => e = .returned (.bool true) ∧ Below w.heap.size w w' := by
  by_cases h16 : 16 < len
  · exact stFault w (spBad_long w h16 hr.2.1) (rsBad_long w h16 hr.2.1) (by decide) n u now hE
  · have hv := psl_row hr hl (by omega)
    by_cases h0 : spE zz = 0
    · exact stGood w hv (by rw [hr.1]; omega) h0 n u now hE
    · exact stFault w (spBad_psl hv rfl) (fun W hW => rSpents rfl _ W (hv.below hW)) h0 n u now hE
end Go.Proofs.YtfehnfbmlomccaaDoor
