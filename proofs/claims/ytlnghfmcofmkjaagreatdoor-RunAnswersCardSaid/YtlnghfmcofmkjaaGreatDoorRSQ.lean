/- foldref2.Server's queue (a field of the server's block): Place, Offer, Out by contracts. -/
import Derived.Test.YtlnghfmcofmkjaaGreatDoorRQueue
namespace Go.Proofs.YtlnghfmcofmkjaaGreatDoor
open Go.RowKit

/-- the other cells of the document's server -/
structure RCs where
  (c0 c1 c2 c3 c5 c6 c7 c8 c9 : Value)
def rcells (R : RCs) (v : Value) : List Value := [R.c0, R.c1, R.c2, R.c3, v, R.c5, R.c6, R.c7, R.c8, R.c9]
/-- the document's server at b; its queue's row v holds zs -/
def RQ (R : RCs) (w : World) (b : Nat) (v : Value) (zs : List (Int × Int)) : Prop := ObjAt w b 60 (rcells R v) ∧ QRow w v zs ∧ v.ownBlock ≠ some b
theorem RQ.below {R : RCs} {w w' : World} {b : Nat} {v : Value} {zs : List (Int × Int)} (h : RQ R w b v zs) (hb : Below w.heap.size w w') : RQ R w' b v zs := ⟨h.1.below hb, h.2.1.below hb, h.2.2⟩
theorem rs_fin {R : RCs} {w w2 : World} {b : Nat} {v : Value} {zs ns : List (Int × Int)} {s n : Int} (h : RQ R w b v zs) (hB2 : Below w.heap.size w w2) (h2 : RQ R w2 b v zs) (yx : w.heap.size < w2.heap.size)
    (k1 : w2.cell? ⟨w.heap.size, 0, none⟩ = some (.int .i64 s)) (k2 : w2.cell? ⟨w.heap.size, 1, none⟩ = some (.int .i64 n)) (hns : zs ++ [(s, n)] = ns) :
    ∀ (W w3 : World) (v3 : Value), Below w2.heap.size w2 W → QRow w3 v3 (zs ++ [(s, n)]) → W.grownBy w3 v.ownBlock → (v3.ownBlock = v.ownBlock ∨ ∃ g, v3.ownBlock = some g ∧ W.heap.size ≤ g) →
      w3.cell? ⟨b, 4, none⟩ = some v ∧ w3.cell? ⟨w.heap.size, 0, none⟩ = some (.int .i64 s) ∧ w3.cell? ⟨w.heap.size, 1, none⟩ = some (.int .i64 n) ∧ w3.frozen? ⟨b, 4, none⟩ = false ∧
        ObjAt w3 b 60 (rcells R v) ∧ QRow w3 v3 ns ∧ (rowOf w v v3 ∧ v3.ownBlock ≠ some b) ∧ Kept (qS b v) w w3 := by
  intro W w3 v3 hW hq hg hv
  have hz1 := hB2.size
  have hz2 := hW.size
  have ho : ObjAt w3 b 60 (rcells R v) := grown_obj hg (h2.1.below hW) (fun k hk e => h2.2.2 (by rw [hk, e]))
  have hne : some w.heap.size ≠ v.ownBlock := fun e => by have := h.2.1.lt _ e.symm; omega
  have hb := h.1.lt
  refine ⟨ho.cell (i := 4) rfl, ?_, ?_, ho.free 4, ho, by rw [← hns]; exact hq, ⟨?_, ?_⟩, ?_⟩
  · exact (hg.cell_far ⟨w.heap.size, 0, none⟩ (show w.heap.size < W.heap.size by omega) hne).trans ((hW.cell (p := ⟨w.heap.size, 0, none⟩) yx).trans k1)
  · exact (hg.cell_far ⟨w.heap.size, 1, none⟩ (show w.heap.size < W.heap.size by omega) hne).trans ((hW.cell (p := ⟨w.heap.size, 1, none⟩) yx).trans k2)
  · rcases hv with e | ⟨g, e, hge⟩
    · exact .inl e
    · exact .inr ⟨g, e, by omega⟩
  · rcases hv with e | ⟨g, e, hge⟩
    · rw [e]; exact h.2.2
    · rw [e]
      intro e2
      have := Option.some.inj e2
      omega
  · exact Kept.grown (Kept.of_below (hB2.trans (hW.mono hB2.size)) _) hg (fun k hk => Or.inl (mem_qS.2 (Or.inr hk)))
set_option maxHeartbeats 4000000 in
theorem rsPlace {R : RCs} {s n : Int} {zs : List (Int × Int)} (b : Nat) (v : Value) (w : World) (h : RQ R w b v zs) :
    Calls Tryz.prog 79 #[.pointer (some ⟨b, 4, none⟩), .agg #[.int .i64 s, .int .i64 n]] w fun e w' => e = .returned (.int .i64 (idxP (cnP s n) zs)) ∧ Below w.heap.size w w' := by
  obtain ⟨av, cv, rfl⟩ := qrow_form h.2.1
  obtain ⟨m, hn⟩ : ∃ m, m = zs.length := ⟨_, rfl⟩
  have hl9 := h.2.1.1
  rw [← hn] at h hl9
  have Hn := hide hn
  have HQ := hide h
  have hb0 := h.1.lt
  clear hn h
  go_enter Tryz.func79, Tryz.ntmps79
  go_wp2_with fail
  go_loopw [5] (fun i wr => ∃ k : Nat, i = .int .i64 (k : Int) ∧ k ≤ m ∧ Hid (∀ j, j < k → cnP s n (zs.getD j (0, 0)) = false) ∧ ObjAt wr w.heap.size 74 [.int .i64 s, .int .i64 n] ∧ Below w.heap.size w wr) (fun i _ => 2000 - (intOf i).toNat)
  case atStart => exact ⟨0, rfl, by omega, hide (fun j hj => by omega), ObjAt.new _ _ _, (Below.refl _ _).alloc (Nat.le_refl _) _⟩
  case round =>
    obtain ⟨k, rfl, hk, hall, ho, hbw⟩ := hrel
    have HO := hide ho
    have HBW := hide hbw
    have t0 := ho.cell (i := 0) rfl
    have t1 := ho.cell (i := 1) rfl
    have hq9 := HQ.out.below hbw
    have c0 := hq9.1.cell (i := 4) rfl
    by_cases hlt : k < m
    · have hkz : k < zs.length := by rw [← Hn.out]; exact hlt
      obtain ⟨_, ⟨h0, _⟩ | ⟨g, off, cap3, hve, p2, p3, p4, p5, p6⟩⟩ := hq9.2.1
      · subst h0; simp at hkz
      simp only [Value.slice.injEq] at hve
      obtain ⟨rfl, _, rfl⟩ := hve
      obtain ⟨q0, q1⟩ := p5 k hkz
      have HK := hide hkz
      obtain ⟨y, hy⟩ : ∃ y, y = zs.getD k (0, 0) := ⟨_, rfl⟩
      rw [← hy] at q0 q1
      have HY := hide hy
      obtain ⟨y1, y2⟩ := y
      simp only at q0 q1
      clear hy hkz ho hbw hq9 p6 p5 p2 p3 p4
      by_cases h1 : y1 = s
      · by_cases h2 : y2 = n
        · have hp : cnP s n (zs.getD k (0, 0)) = true := by rw [← HY.out]; simp [cnP, h1, h2]
          have HI := hide (idxP_hit HK.out hp hall.out)
          subst h1
          subst h2
          clear hp
          go_wp2_with fail
          go_quiet (fail)
          go_wp2
          go_ret
          exact ⟨by rw [HI.out]; rfl, by first | exact HBW.out | exact bel_drewN HBW.out _ | exact HBW.out.drew⟩
        · have hp : cnP s n (zs.getD k (0, 0)) = false := by rw [← HY.out]; simp [cnP, h2]
          have HA := hide (lt_succQ hall.out hp)
          have e1 : (y1 == s) = true := by simp [h1]
          have e2 : (y2 == n) = false := beq_eq_false_iff_ne.2 h2
          clear hp h2 h1
          go_wp2_with fail
          go_quiet (fail)
          go_wp2
          go_roundw
          case rel => exact ⟨k + 1, by go_num, by omega, HA, by first | exact HO.out | exact HO.out.drewN _ | exact HO.out.drew, by first | exact HBW.out | exact bel_drewN HBW.out _ | exact HBW.out.drew⟩
          case measure => simp [intOf] <;> omega
      · have hp : cnP s n (zs.getD k (0, 0)) = false := by rw [← HY.out]; simp [cnP, h1]
        have HA := hide (lt_succQ hall.out hp)
        have e1 : (y1 == s) = false := beq_eq_false_iff_ne.2 h1
        clear hp h1
        go_wp2_with fail
        go_quiet (fail)
        go_wp2
        go_roundw
        case rel => exact ⟨k + 1, by go_num, by omega, HA, by first | exact HO.out | exact HO.out.drewN _ | exact HO.out.drew, by first | exact HBW.out | exact bel_drewN HBW.out _ | exact HBW.out.drew⟩
        case measure => simp [intOf] <;> omega
    · have HI := hide (idxP_miss (p := cnP s n) (zs := zs) (fun j hj => hall.out j (by have := Hn.out; omega)))
      have hge : (m : Int) ≤ k := by omega
      clear hq9 ho hall HQ
      go_wp2
      go_ret
      exact ⟨by rw [HI.out]; rfl, hbw⟩
theorem rsPlace_at {R : RCs} {s n j : Int} {zs : List (Int × Int)} (hj : idxP (cnP s n) zs = j) (b : Nat) (v : Value) (w : World) (h : RQ R w b v zs) :
    Calls Tryz.prog 79 #[.pointer (some ⟨b, 4, none⟩), .agg #[.int .i64 s, .int .i64 n]] w fun e w' => e = .returned (.int .i64 j) ∧ Below w.heap.size w w' := by
  have := rsPlace (s := s) (n := n) b v w h
  rwa [hj] at this
set_option maxHeartbeats 4000000 in
theorem rsOffer_ok {R : RCs} {s n : Int} {zs ns : List (Int × Int)} (hns : zs ++ [(s, n)] = ns) (hc : offE zs s n = 0) (b : Nat) (v : Value) (w : World) (h : RQ R w b v zs) :
    Calls Tryz.prog 57 #[.pointer (some ⟨b, 4, none⟩), .agg #[.int .i64 s, .int .i64 n]] w fun e w' => e = .returned (.int .i64 0) ∧ ∃ v', RQ R w' b v' ns ∧ rowOf w v v' ∧ Kept (qS b v) w w' := by
  unfold offE at hc
  cases hv : connB s n
  · rw [if_pos hv] at hc; exact absurd hc (by decide)
  · rw [if_neg (by rw [hv]; simp)] at hc
    cases hq : zs.any (cnP s n)
    · rw [if_neg (by rw [hq]; simp)] at hc
      by_cases h8' : 8 ≤ zs.length
      · rw [if_pos h8'] at hc; exact absurd hc (by decide)
      ·
        have RC := hide (fun W => rConn_eq hv W)
        obtain ⟨a, cp, rfl⟩ := qrow_form h.2.1
        have HQ := hide h
        obtain ⟨j, hj⟩ : ∃ j, idxP (cnP s n) zs = j := ⟨_, rfl⟩
        have CC : Hid (∀ W, Below w.heap.size w W → Calls Tryz.prog 79 #[.pointer (some ⟨b, 4, none⟩), .agg #[.int .i64 s, .int .i64 n]] W fun e w' => e = .returned (.int .i64 j) ∧ Below W.heap.size W w') :=
          hide (fun W hW => rsPlace_at hj b _ W (HQ.out.below hW))
        have hji := idxP_any (cnP s n) zs
        rw [hj] at hji
        have yb := h.1.lt
        clear hv h hj
        rw [hq] at hji
        have hj0 : j < 0 := by have := of_decide_eq_false hji; omega
        have HNS := hide hns
        have t8 : (zs.length : Int) < 8 := by omega
        clear hq hc hns hji
        go_enter Tryz.func57, Tryz.ntmps57
        go_wp2_with fail
        refine (RC.out _).mono ?_
        rintro e w1 ⟨rfl, hb1⟩
        have hB1 : Below w.heap.size w w1 := bel_a1 hb1
        have HQ1 := hide (HQ.out.below hB1)
        have HX1 : Hid (ObjAt w1 w.heap.size 74 [.int .i64 s, .int .i64 n]) := (ObjAt.new _ _ _).below hb1
        have c1 := HX1.out.cell (i := 0) rfl
        have c2 := HX1.out.cell (i := 1) rfl
        clear hb1
        go_wp2_with fail
        refine (CC.out _ hB1).mono ?_
        rintro e w2 ⟨rfl, hb2⟩
        have hB2 : Below w.heap.size w w2 := hB1.trans (hb2.mono hB1.size)
        have HQ2 := hide (HQ1.out.below hb2)
        have HX2 := hide (HX1.out.below hb2)
        have k0 := HQ2.out.1.cell (i := 4) rfl
        clear hb2 c1 c2 HQ1 HX1
        have k1 := HX2.out.cell (i := 0) rfl
        have k2 := HX2.out.cell (i := 1) rfl
        have yx := HX2.out.lt
        have fb := HQ2.out.1.free 4
        have yy := HQ2.out.1.lt
        have QF := hide (rs_fin (s := s) (n := n) HQ.out hB2 HQ2.out yx k1 k2 HNS.out)
        have hrr := Below.refl w2.heap.size w2
        go_wp2_with fail
        go_region_law
          ((refine step_append_q _ rfl (.tmp 24) (.tmp 26) rfl (by simp [Act.eval]) (QRow.below HQ2.out.2.1 (by go_grown)) (by omega) ⟨w2.heap.size, 0, none⟩ 1 (s, n) (by simp [Act.eval]) (by simp [Addr.add]) (by simp [Addr.add]) ?_; intro v3 w3 hq3 hg3 hv3
            obtain ⟨a3, c3, hf3⟩ := qrow_form hq3
            obtain ⟨m3, hm3⟩ : ∃ m, m = (zs ++ [(s, n)]).length := ⟨_, rfl⟩
            rw [← hm3] at hf3
            clear hm3
            subst hf3
            have HT3 := QF.out _ w3 _ (by go_grown) hq3 hg3 hv3
            have HS3 : w3.cell? ⟨b, 4, none⟩ = some (.slice a zs.length cp) ∧ w3.cell? ⟨w.heap.size, 0, none⟩ = some (.int .i64 s) ∧ w3.cell? ⟨w.heap.size, 1, none⟩ = some (.int .i64 n) := ⟨HT3.1, HT3.2.1, HT3.2.2.1⟩
            have fb3 : w3.frozen? ⟨b, 4, none⟩ = false := HT3.2.2.2.1
            have HZ3 := hide HT3.2.2.2.2
            clear hq3 hg3 hv3 HT3))
        all_goals go_wp2
        all_goals go_ret
        all_goals obtain ⟨z1, z2, z3, z4⟩ := HZ3.out
        all_goals exact ⟨rfl, _, ⟨z1.set 4 _, z2.setOther (fun g hg e => z3.2 (by rw [hg, e])) _, z3.2⟩, z3.1, z4.setCell (Or.inl (mem_qS.2 (Or.inl rfl))) _⟩
    · rw [if_pos hq] at hc; exact absurd hc (by decide)
set_option maxHeartbeats 4000000 in
theorem rsOut {R : RCs} {i : Nat} {zs ns : List (Int × Int)} (hi : i < zs.length) (hns : zs.eraseIdx i = ns) (b : Nat) (v : Value) (w : World) (h : RQ R w b v zs) :
    Calls Tryz.prog 23 #[.pointer (some ⟨b, 4, none⟩), .int .i64 i] w fun e w' => e = .returned (.tuple #[]) ∧ ∃ v', RQ R w' b v' ns ∧ (v'.ownBlock = none ∨ ∃ g, v'.ownBlock = some g ∧ w.heap.size ≤ g) ∧ Kept [b] w w' := by
  obtain ⟨i0, hi0, hz0, hz1, hz2⟩ := info_parts Tryz.infoCn
  obtain ⟨hl9, ⟨h0, _⟩ | ⟨g, off, cap, hve, q2, q3, q4, q5, q6⟩⟩ := h.2.1
  · subst h0; simp at hi
  obtain ⟨k, hk⟩ : ∃ k, zs.length = i + k + 1 := ⟨zs.length - i - 1, by omega⟩
  rw [hk] at hve hl9
  have hne : g ≠ b := fun e => h.2.2 (by rw [← e, hve]; rfl)
  have hcap : i + k + 1 ≤ cap := by rw [← hk]; exact q2
  have hmx := q3
  unfold maxLen at hmx
  subst hve
  have c0 := h.1.cell (i := 4) rfl
  have yb := h.1.lt
  have HO := hide h.1
  obtain ⟨n1, hn1⟩ : ∃ n1, n1 = flat (zs.take i) := ⟨_, rfl⟩
  obtain ⟨n2, hn2⟩ : ∃ n2, n2 = flat (zs.drop (i + 1)) := ⟨_, rfl⟩
  have L1 : Hid (n1.length = i * 2) := by rw [hn1]; show (flat (zs.take i)).length = _; rw [flat_length, List.length_take]; omega
  have L2 : Hid (n2.length = k * 2) := by rw [hn2]; show (flat (zs.drop (i + 1))).length = _; rw [flat_length, List.length_drop]; omega
  have O1 : Hid (∀ u ∈ n1, u.oneCell' = true) := by rw [hn1]; exact flat_oneCell _
  have O2 : Hid (∀ u ∈ n2, u.oneCell' = true) := by rw [hn2]; exact flat_oneCell _
  have C1 : Hid (∀ j u, n1[j]? = some u → w.cell? ((⟨g, off, none⟩ : Addr).add j) = some u) := by
    intro j u hu
    rw [Addr.add_lit]
    have hp2 : PC w g off (zs.take i) := by
      intro j hj
      rw [List.length_take] at hj
      have := q5 j (by omega)
      have e : (zs.take i).getD j (0, 0) = zs.getD j (0, 0) := by simp only [List.getD]; rw [List.getElem?_take_of_lt (by omega)]
      rw [e]; exact this
    exact hp2.flat j u (by rw [← hn1]; exact hu)
  obtain ⟨A, hA, C2⟩ : ∃ A : Addr, (if cap = i + 1 then some (⟨g, off, none⟩ : Addr) else some ⟨g, off + (i + 1) * 2, none⟩) = some A ∧ Hid (∀ W : World, (∀ o, W.cell? ⟨g, o, none⟩ = w.cell? ⟨g, o, none⟩) → ∀ t u, n2[t]? = some u → W.cell? (A.add t) = some u) := by
    by_cases hc : cap = i + 1
    · refine ⟨⟨g, off, none⟩, by simp [hc], fun W _ t u hu => ?_⟩
      have : n2.length = 0 := by rw [L2.out]; omega
      rw [List.length_eq_zero_iff.1 this] at hu
      simp at hu
    · refine ⟨⟨g, off + (i + 1) * 2, none⟩, by simp [hc], fun W hW t u hu => ?_⟩
      rw [Addr.add_lit, hW]
      have hp2 : PC w g (off + (i + 1) * 2) (zs.drop (i + 1)) := by
        intro j hj
        rw [List.length_drop] at hj
        have := q5 (i + 1 + j) (by omega)
        have e : (zs.drop (i + 1)).getD j (0, 0) = zs.getD (i + 1 + j) (0, 0) := by simp [List.getD, List.getElem?_drop]
        rw [e, show off + (i + 1) * 2 + j * 2 = off + (i + 1 + j) * 2 by omega]
        exact this
      exact hp2.flat t u (by rw [← hn2]; exact hu)
  have hel : ns.length = i + k := by rw [← hns, List.length_eraseIdx, if_pos (by omega), hk]; omega
  have hfl : n1 ++ n2 = flat ns := by rw [hn1, hn2, ← hns, ← flat_append, List.eraseIdx_eq_take_drop_succ]
  have HFL := hide hfl
  have HEL := hide hel
  have Hi0 := hide hi0
  have Hz0 := hide hz0
  have Hz1 := hide hz1
  have Hz2 := hide hz2
  have hic : i ≤ cap := by omega
  have hjc : i + 1 ≤ cap := by omega
  have m1 : (0 : Int) ≤ (i : Int) + 1 := by omega
  have m2 : (i : Int) ≤ (i : Int) + (k : Int) := by omega
  clear hn1 hn2 q5 q6 q2 q3 hi hns h hi0 hz0 hz1 hz2 hel hfl hk
  go_enter Tryz.func23, Tryz.ntmps23
  go_wp2_with (at_builtin; refine wpList_append_own _ rfl _ _ 53 rfl w.heap.size 74 i0 _ 2 16 Tryz.underlying53 Hi0.out Hz0.out Hz1.out Hz2.out rfl (by decide) _ 0 [] rfl (World.ownsRow_nil _ _ _ 2) ⟨g, off, none⟩ i cap n1 rfl L1.out C1.out O1.out ?c3 ?c4 (Nat.le_refl _) ?_)
  case c3 => unfold maxLen; omega
  case c4 => omega
  intro v1 w1 hown1 hg1 _
  have hb1 : Below w.heap.size w w1 := ⟨hg1.os, hg1.tape, hg1.output, hg1.size, fun j hj => hg1.block j hj (by simp [Value.ownBlock])⟩
  have HO1 := hide (HO.out.below hb1)
  have c1 := HO1.out.cell (i := 4) rfl
  have f1 := HO1.out.free 4
  have y1 := HO1.out.lt
  have CC2 := hide (C2.out w1 (fun o => hb1.cell (p := ⟨g, o, none⟩) q4))
  have hown1' : w1.ownsRow w.heap.size 74 2 v1 i n1 := by simpa using hown1
  have HW1 := hide hown1'
  have hB1 := hide hb1
  have hs1 := hb1.size
  obtain ⟨a1, cc1, hv1⟩ := own_sl hown1'
  subst hv1
  clear hown1 hown1' hg1 hb1 c0 C2 C1
  go_wp2_with (at_builtin; refine wpList_append_own _ rfl _ _ 53 rfl w.heap.size 74 i0 _ 2 16 Tryz.underlying53 Hi0.out Hz0.out Hz1.out Hz2.out rfl (by decide) _ i n1 rfl HW1.out A k (cap - (i + 1)) n2 rfl L2.out CC2.out O2.out ?c3 ?c4 ?c5 ?_)
  case c3 => unfold maxLen; omega
  case c4 => omega
  case c5 => first | omega | exact hs1
  intro v2 w2 hown2 hg2 _
  have hr1 := row_own HW1.out
  have ho2 : ObjAt w2 b 60 (rcells R (.slice (some ⟨g, off, none⟩) (i + k + 1) cap)) := grown_obj hg2 HO1.out (fun j hj e => by
    rcases hr1 with hr | ⟨g', hr, h1, _⟩
    · rw [hr] at hj; cases hj
    · rw [hr] at hj; have := Option.some.inj hj; omega)
  have HB2 := hide (grown_below hB1.out hg2 (fun j hj => by
    rcases hr1 with hr | ⟨g', hr, h1, _⟩
    · rw [hr] at hj; cases hj
    · rw [hr] at hj; have := Option.some.inj hj; omega) hs1)
  have f2 := ho2.free 4
  have c2 := ho2.cell (i := 4) rfl
  have HO2 := hide ho2
  have hown2' : w2.ownsRow w.heap.size 74 2 v2 ns.length (flat ns) := by rw [← HFL.out, HEL.out]; exact hown2
  have HW2 := hide hown2'
  obtain ⟨a2, cc2, hv2⟩ := own_sl hown2
  subst hv2
  clear hown2 hown2' hg2 ho2 hr1 c1 f1
  have hq := own_qrow HW2.out (by rw [HEL.out]; omega)
  have HQF := hide hq
  have HRF := hide (row_own HW2.out)
  clear hq
  go_wp2
  go_returns
  have hr := HRF.out
  refine ⟨rfl, _, ⟨HO2.out.set 4 _, HQF.out.setOther (fun g' hg' e => ?_) _, fun e => ?_⟩, ?_, (Kept.of_below HB2.out _).setCell (p := ⟨b, 4, none⟩) (Or.inl (by simp)) _⟩
  · rcases hr with hr | ⟨g3, hr, h1, _⟩
    · rw [hr] at hg'; cases hg'
    · rw [hr] at hg'; have := Option.some.inj hg'; have e' : g' = b := e; omega
  · rcases hr with hr | ⟨g3, hr, h1, _⟩
    · rw [hr] at e; cases e
    · rw [hr] at e; have := Option.some.inj e; omega
  · rcases hr with hr | ⟨g3, hr, h1, _⟩
    · exact .inl hr
    · exact .inr ⟨g3, hr, h1⟩
end Go.Proofs.YtlnghfmcofmkjaaGreatDoor
