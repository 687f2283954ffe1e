/- The walk of QueueOrders. -/
import Derived.Test.YtfehnfbmlomccaaDoorQueueFullWalk
import Derived.Test.YtfehnfbmlomccaaDoorOpen
import Derived.BigQuiet
namespace Go.Proofs.YtfehnfbmlomccaaDoor
open Go.RowKit

theorem wpList_append_q (w : World) {ops : Array Oper} {rest : List Oper} {o : Oper} {a : Act} {Q : Exit → Act → World → Prop} (hgd : o.guard = none) (s x : Operand)
    (ho : o.op = .call { callee := .builtin .append, args := #[s, x], argTypes := #[22, 22] })
    {v : Value} {zs : List (Int × Int)} (hs : a.eval s = v) (hq : QRow w v zs) (hl : zs.length < 800) (ad : Addr) (c : Nat) (y : Int × Int) (hx : a.eval x = .slice (some ad) 1 c)
    (h0 : w.cell? (ad.add 0) = some (.int .i64 y.1)) (h1 : w.cell? (ad.add 1) = some (.int .i64 y.2))
    (h : ∀ v' w', QRow w' v' (zs ++ [y]) → w.grownBy w' v.ownBlock → (v'.ownBlock = v.ownBlock ∨ ∃ g, v'.ownBlock = some g ∧ w.heap.size ≤ g) → wpList Tryd.prog ops Q rest (a.put o.dst v') w') : wpList Tryd.prog ops Q (o :: rest) a w := by
  refine wpList_plain hgd fun K hK' => ?_
  obtain ⟨v', w', hr, h2, h3, h4⟩ := run_append_q w o.type hq hl ad c y h0 h1
  unfold Oper.wp execOp
  simp only [ho, resolve, invoke, builtin, Sem.run_bind, Sem.run_pure, Result.andThen_ok, List.map_toArray, List.map_cons, List.map_nil, hs, hx, hr]
  exact hK' _ _ (h v' w' h2 h3 h4)
theorem QAt.grown {T : TypeId} {w w' : World} {b : Nat} {v : Value} {zs : List (Int × Int)} {r : Option Nat} (h : QAt T w b v zs) (hg : w.grownBy w' r) (hr : ∀ k, r = some k → k ≠ b ∧ v.ownBlock ≠ some k) : QAt T w' b v zs :=
  ⟨grown_obj hg h.1 (fun k hk => (hr k hk).1), h.2.1.carry hg.size (fun g hg' => hg.block g (h.2.1.lt g hg') (fun e => (hr g e.symm).2 hg')), h.2.2⟩
/-- the row of vi is not the queue's, nor is its block -/
def qSep (B b : Nat) (v vi : Value) : Prop := ∀ g, vi.ownBlock = some g → g ≠ b ∧ v.ownBlock ≠ some g ∧ B ≤ g
theorem qSep.row {B b : Nat} {w : World} {v v' vi : Value} {zs : List (Int × Int)} (h : qSep B b v vi) (hq : QRow w vi zs) (hr : rowOf w v v') : qSep B b v' vi := by
  intro g hg
  obtain ⟨h1, h2, h3⟩ := h g hg
  refine ⟨h1, ?_, h3⟩
  rcases hr with e | ⟨g', e, h'⟩
  · rw [e]; exact h2
  · rw [e]
    intro e2
    have := hq.lt g hg
    have := Option.some.inj e2
    omega
theorem qSep.kept {B b : Nat} {w w' : World} {v vi : Value} {zs : List (Int × Int)} (h : qSep B b v vi) (hq : QRow w vi zs) (hk : Kept (qS b v) w w') : QRow w' vi zs :=
  hq.kept hk fun g hg hm => by
    obtain ⟨h1, h2, _⟩ := h g hg
    rcases mem_qS.1 hm with e | e
    · exact h1 e
    · exact h2 e
theorem qSep.grow {B b : Nat} {w : World} {v vi vi' : Value} {T : TypeId} {zs : List (Int × Int)} (h : qSep B b v vi) (hq : QAt T w b v zs) (hB : B ≤ w.heap.size) (hr : vi'.ownBlock = vi.ownBlock ∨ ∃ g, vi'.ownBlock = some g ∧ w.heap.size ≤ g) : qSep B b v vi' := by
  intro g hg
  rcases hr with e | ⟨g', e, h'⟩
  · exact h g (by rw [← e]; exact hg)
  · rw [hg] at e
    obtain rfl := Option.some.inj e
    have h1 := hq.1.lt
    exact ⟨by omega, fun e2 => by have := hq.2.1.lt _ e2; omega, by omega⟩
/-- no two are the same -/
def qDist (zs : List (Int × Int)) : Prop := zs.Pairwise fun x y => ¬ (x.1 = y.1 ∧ x.2 = y.2)
theorem qDist.snoc {zs : List (Int × Int)} {s n : Int} (h : qDist zs) (hc : offE zs s n = 0) : qDist (zs ++ [(s, n)]) := by
  unfold offE at hc
  split at hc
  · exact absurd hc (by decide)
  · split at hc
    · exact absurd hc (by decide)
    · rename_i h1 h2
      unfold qDist
      rw [List.pairwise_append]
      refine ⟨h, by simp, fun x hx y hy => ?_⟩
      simp at hy
      subst hy
      rintro ⟨e1, e2⟩
      exact h2 (List.any_eq_true.2 ⟨x, hx, by simp [cnP, e1, e2]⟩)
theorem qDist.at {zs : List (Int × Int)} (h : qDist zs) {j k : Nat} (hj : j < k) (hk : k < zs.length) : ¬ ((zs.getD j (0, 0)).1 = (zs.getD k (0, 0)).1 ∧ (zs.getD j (0, 0)).2 = (zs.getD k (0, 0)).2) := by
  have := List.pairwise_iff_getElem.1 h j k (by omega) hk hj
  simpa [List.getD, List.getElem?_eq_getElem hk, List.getElem?_eq_getElem (show j < zs.length by omega)] using this
theorem qo_drop {zs : List (Int × Int)} {k : Nat} (hk : k < zs.length) : zs.drop k = zs.getD k (0, 0) :: zs.drop (k + 1) := by
  rw [List.drop_eq_getElem_cons hk]; simp [List.getD, List.getElem?_eq_getElem hk]
theorem qo_1 : offE [] 0 1 = 0 := by decide +kernel
theorem qo_2 : offE [(0, 1)] 0 2 = 0 := by decide +kernel
theorem qo_3 : offE [(0, 1), (0, 2)] 0 1 = 7 := by decide +kernel
/-- the first half: a queue of two -/
theorem qo_len {zs : List (Int × Int)} {s n : Int} (h : offE zs s n = 0) : (zs ++ [(s, n)]).length ≤ 8 := by
  have := offer_len h
  simp; omega
set_option maxRecDepth 100000 in
set_option maxHeartbeats 16000000 in
theorem walkQueueOrders (w : World) (a : Option Addr) (len cap : Nat) (zz : List (Int × Int)) (_hl : len ≤ cap) (_hc : cap ≤ maxLen) (hr : PairRow w a len zz) (hE : ErrT w) :
    Calls Tryd.prog 3 #[.slice a len cap] w fun e w' => e = .returned (.bool true) ∧ Below w.heap.size w w' := by
  have hm : len ≤ maxLen := hr.2.1
  unfold maxLen at hm
  have hw0 := hE.pos
  have HR : Hid (len = 0 ∨ ∃ b off, a = some ⟨b, off, none⟩ ∧ b < w.heap.size ∧ ∀ j, j < len → w.cell? ⟨b, off + j * 2, none⟩ = some (.int .i64 (zz.getD j (0, 0)).1) ∧ w.cell? ⟨b, off + j * 2 + 1, none⟩ = some (.int .i64 (zz.getD j (0, 0)).2)) := by
    rcases hr.2.2.2 with h | ⟨b, off, rfl, hlt, hcell⟩
    · exact .inl h
    · refine .inr ⟨b, off, rfl, hlt, fun j hj => ?_⟩
      have q0 := hcell j 0 hj (by decide)
      have q1 := hcell j 1 hj (by decide)
      exact ⟨by simpa using q0, by simpa using q1⟩
  clear hr _hl _hc
  have T1 := hide (fun b v W h => qOffer_ok (ns := [(0, 1)]) rfl qo_1 b v W h)
  have T2 := hide (fun b v W h => qOffer_ok (ns := [(0, 1), (0, 2)]) rfl qo_2 b v W h)
  have T3 := hide (fun b v W h => qOffer_bad qo_3 (by decide) (by decide) b v W h)
  have T4 := hide (fun b v W h => qPull_one (x := (0, 1)) (l := [(0, 2)]) b v W h)
  go_enter Tryd.func3, Tryd.ntmps3
  go_wp2_with fail
  refine (qNew _).mono ?_
  rintro e w1 ⟨rfl, hq1, hB1⟩
  have HQ1 := hide hq1
  clear hq1
  go_wp2_with fail
  refine (T1.out _ _ _ HQ1.out).mono ?_
  rintro e w2 ⟨rfl, v2, hq2, hr2, hk2⟩
  have HV1 : qB w.heap.size (.slice none 0 0) := by intro g hg; simp [Value.ownBlock] at hg
  have hB2 := HV1.below (Nat.le_refl _) hB1 hk2 hB1.size
  have HV2 := HV1.row hr2 hB1.size
  have HQ2 := hide hq2
  clear hq2 hr2 hk2 HV1
  go_wp2_with fail
  refine (T2.out _ _ _ HQ2.out).mono ?_
  rintro e w3 ⟨rfl, v3, hq3, hr3, hk3⟩
  have hB3 := HV2.below (Nat.le_refl _) hB2 hk3 hB2.size
  have HV3 := HV2.row hr3 hB2.size
  have HQ3 := hide hq3
  clear hq3 hr3 hk3 HV2 HQ2
  go_wp2_with fail
  refine (T3.out _ _ _ HQ3.out).mono ?_
  rintro e w4 ⟨rfl, hb4⟩
  have hB4 : Below w.heap.size w w4 := hB3.trans (hb4.mono hB3.size)
  have HQ4 := hide (HQ3.out.below hb4)
  clear hb4 HQ3
  go_wp2_with fail
  refine (T4.out _ _ _ HQ4.out).mono ?_
  rintro e w5 ⟨rfl, v5, hq5, hr5, hk5⟩
  have hB5 := HV3.below (Nat.le_refl _) hB4 hk5 hB4.size
  clear hq5 hr5 hk5 HV3 HQ4 HQ1 T1 T2 T3 T4
  have hB5' : Below w.heap.size w (w5.alloc (.cells #[.int .i64 0, .int .i64 1] 29)) := hB5.alloc hB5.size _
  go_wp2_with fail
  refine (error_any 7 7 _ (hE.below (B := w.heap.size) (by first | exact hB5' | go_grown) hE.pos)).mono ?_
  rintro e w6 ⟨rfl, hb6⟩
  have hB6 : Below w.heap.size w w6 := hB5.trans ((bel_a1 hb6).mono hB5.size)
  obtain ⟨c6, d6⟩ := bcell hb6
  have ho6 : ObjAt w6 w5.heap.size 29 [.int .i64 0, .int .i64 1] := (ObjAt.new _ _ _).below hb6
  have t0 := ho6.cell (i := 0) rfl
  have t1 := ho6.cell (i := 1) rfl
  clear ho6 hb6 c6 d6 hB5' hB5 hB4 hB3 hB2 hB1
  go_wp2_with fail
  refine (qNew _).mono ?_
  rintro e w7 ⟨rfl, hq7, hb7⟩
  have hB7 : Below w.heap.size w w7 := hB6.trans (hb7.mono hB6.size)
  have HQ7 := hide hq7
  have hbb : w.heap.size ≤ w6.heap.size := hB6.size
  obtain ⟨b, hb⟩ : ∃ b, b = w6.heap.size := ⟨_, rfl⟩
  rw [← hb] at HQ7 hbb ⊢
  clear hq7 hb7 t0 t1 hB6 hb
  go_wp2_with fail
  go_loopw [10, 11] (fun vi i wr => ∃ (k : Nat) (v : Value) (zs : List (Int × Int)), i = .int .i64 k ∧ k ≤ len ∧ k ≤ 40 ∧ zs.length ≤ 8 ∧ QAt 74 wr b v zs ∧ QRow wr vi zs ∧ qSep w.heap.size b v vi ∧ qB w.heap.size v ∧ qDist zs ∧ Below w.heap.size w wr) (fun _ i _ => 100 - (intOf i).toNat)
  case atStart => exact ⟨0, _, [], rfl, by omega, by omega, by simp, HQ7.out, QRow.nil _, by intro g hg; simp [Value.ownBlock] at hg, by intro g hg; simp [Value.ownBlock] at hg, List.Pairwise.nil, hB7⟩
  case round =>
    obtain ⟨k, v, zs, rfl, hk, hk4, hz8, hq, hqi, hsep, hqb, hd, hb9⟩ := hrel
    obtain ⟨w9, rfl⟩ : ∃ x, x = wr := ⟨wr, rfl⟩
    have HQ := hide hq
    have HI := hide hqi
    have HSEP := hide hsep
    have HQB := hide hqb
    have HD := hide hd
    clear hq hqi hsep hqb hd HQ7
    by_cases h1 : k < len
    · by_cases h2 : k < 40
      · obtain ⟨b2, off2, ha, hlt2, q0, q1⟩ : ∃ b2 off2, a = some ⟨b2, off2, none⟩ ∧ b2 < w.heap.size ∧ w.cell? ⟨b2, off2 + k * 2, none⟩ = some (.int .i64 (zz.getD k (0, 0)).1) ∧ w.cell? ⟨b2, off2 + k * 2 + 1, none⟩ = some (.int .i64 (zz.getD k (0, 0)).2) := by
          rcases HR.out with h | ⟨b2, off2, h3, h4, h5⟩
          · omega
          · exact ⟨b2, off2, h3, h4, h5 k h1⟩
        subst ha
        generalize zz.getD k (0, 0) = x at q0 q1
        obtain ⟨s, n⟩ := x
        simp only at q0 q1
        have r0 := (hb9.cell (p := ⟨b2, off2 + k * 2, none⟩) hlt2).trans q0
        have r1 := (hb9.cell (p := ⟨b2, off2 + k * 2 + 1, none⟩) hlt2).trans q1
        obtain ⟨c, hc⟩ : ∃ c, offE zs s n = c := ⟨_, rfl⟩
        by_cases hc0 : c = 0
        · subst hc0
          obtain ⟨ns, hns⟩ : ∃ ns, zs ++ [(s, n)] = ns := ⟨_, rfl⟩
          have hz7 := offer_len hc
          have hn8 := qo_len hc
          rw [hns] at hn8
          have hdn := HD.out.snoc hc
          rw [hns] at hdn
          have HDN := hide hdn
          have OK := hide (qOffer_ok hns hc b v w9 HQ.out)
          have HNS := hide hns
          clear hc hns hdn HD
          go_wp2_with fail
          refine OK.out.mono ?_
          rintro e w10 ⟨rfl, v10, hq10, hr10, hk10⟩
          have hB10 := HQB.out.below hbb hb9 hk10 hb9.size
          have HQB10 := hide (HQB.out.row hr10 hb9.size)
          have HI10 := hide (HSEP.out.kept HI.out hk10)
          have HSEP10 := hide (HSEP.out.row HI.out hr10)
          have HQ10 := hide hq10
          have u0 := (hB10.cell (p := ⟨b2, off2 + k * 2, none⟩) hlt2).trans q0
          have u1 := (hB10.cell (p := ⟨b2, off2 + k * 2 + 1, none⟩) hlt2).trans q1
          clear hq10 hr10 hk10 OK HQ HI HSEP HQB r0 r1 q0 q1 hb9
          have hs10 := hB10.size
          have HBA : Hid (Below w10.heap.size w10 (w10.alloc (.cells #[.int .i64 s, .int .i64 n] 29))) := hide ((Below.refl _ _).alloc (Nat.le_refl _) _)
          go_wp2_with (first | (at_builtin; refine wpList_append_q _ rfl _ _ rfl rfl (QRow.below HI10.out HBA.out) (by omega) ⟨w10.heap.size, 0, none⟩ 1 (s, n) rfl ?c1 ?c2 ?_))
          intro vi2 w11 hq11 hg11 hv11
          rw [HNS.out] at hq11
          have HI11 := hide hq11
          have HQ11 := hide ((HQ10.out.below HBA.out).grown hg11 (fun k hk => ⟨(HSEP10.out k hk).1, (HSEP10.out k hk).2.1⟩))
          have HSEP11 := hide (HSEP10.out.grow (HQ10.out.below HBA.out) (by have := HBA.out.size; omega) (by simpa using hv11))
          have HB11 := hide (grown_below (hB10.trans (HBA.out.mono hB10.size)) hg11 (fun k hk => (HSEP10.out k hk).2.2) (by have := HBA.out.size; omega))
          clear hq11 hg11 hv11 HBA HI10 HQ10 HSEP10
          go_wp2
          go_roundw
          case rel => exact ⟨k + 1, v10, ns, by go_num, by omega, by omega, hn8, HQ11.out, HI11.out, HSEP11.out, HQB10.out, HDN.out, HB11.out⟩
          case measure => simp [intOf] <;> omega
        · have tc : (c == 0) = false := beq_eq_false_iff_ne.2 hc0
          have BD := hide (qOffer_bad hc hc0 hz8 b v w9 HQ.out)
          clear hc hc0
          go_wp2_with fail
          refine BD.out.mono ?_
          rintro e w10 ⟨rfl, hb10⟩
          have hB10 : Below w.heap.size w w10 := hb9.trans (hb10.mono hb9.size)
          have HQ10 := hide (HQ.out.below hb10)
          have HI10 := hide (HI.out.below hb10)
          clear hb10 BD r0 r1 q0 q1
          go_wp2
          go_roundw
          case rel => exact ⟨k + 1, v, zs, by go_num, by omega, by omega, hz8, HQ10.out, HI10.out, HSEP.out, HQB.out, HD.out, hB10⟩
          case measure => simp [intOf] <;> omega
      · obtain ⟨av, cv, rfl⟩ := qrow_form HI.out
        obtain ⟨m, hm9⟩ : ∃ m, m = zs.length := ⟨_, rfl⟩
        rw [← hm9] at HI HSEP hz8 ⊢
        have HM := hide hm9
        have tm : (m : Int) ≤ 8 := by omega
        have tm2 : ¬ (8 : Nat) < m := by omega
        clear hm9
        go_wp2_with fail
        go_loopw [12] (fun i wr => ∃ (k : Nat) (v : Value), i = .int .i64 k ∧ k ≤ m ∧ QAt 74 wr b v (zs.drop k) ∧ QRow wr (.slice av m cv) zs ∧ qSep w.heap.size b v (.slice av m cv) ∧ qB w.heap.size v ∧ Below w.heap.size w wr) (fun i _ => 100 - (intOf i).toNat)
        case atStart => exact ⟨0, v, rfl, by omega, HQ.out, HI.out, HSEP.out, HQB.out, hb9⟩
        case round =>
          clear HQ HI HSEP HQB hb9 hk4
          clear hk
          obtain ⟨k, v, rfl, hk, hq, hqi, hsep, hqb, hb9⟩ := hrel
          obtain ⟨w10, rfl⟩ : ∃ x, x = wr := ⟨wr, rfl⟩
          by_cases hkm : k < m
          · have hkz : k < zs.length := by rw [← HM.out]; exact hkm
            rw [qo_drop hkz] at hq
            obtain ⟨_, ⟨h0, _⟩ | ⟨g, off, cap3, hve, p2, p3, p4, p5, p6⟩⟩ := hqi
            · subst h0; simp at hkz
            · simp only [Value.slice.injEq] at hve
              obtain ⟨rfl, hme, rfl⟩ := hve
              obtain ⟨x, hx⟩ : ∃ x, x = zs.getD k (0, 0) := ⟨_, rfl⟩
              obtain ⟨k0, k1⟩ := p5 k hkz
              rw [← hx] at k0 k1 hq
              have HDK := hide (fun j (hj : j < k) => HD.out.at hj hkz)
              rw [← hx] at HDK
              have HP5 := hide p5
              have HQI : Hid (QRow w10 (.slice (some ⟨g, off, none⟩) m cv) zs) := hide ⟨by omega, .inr ⟨g, off, cv, by rw [hme], p2, p3, p4, p5, p6⟩⟩
              have HQ := hide hq
              have HSEP := hide hsep
              have HQB := hide hqb
              have hgl : g < w10.heap.size := p4
              have hmcv : m ≤ cv := by omega
              unfold maxLen at p3
              obtain ⟨x1, x2⟩ := x
              simp only at k0 k1
              have HK0 := hide k0
              have HK1 := hide k1
              clear p6 p5 p4 hq hsep hqb hx hme k0 k1
              go_wp2_with fail
              go_loopw [13] (fun jv ww => ∃ j : Nat, jv = .int .i64 j ∧ j ≤ k ∧ Below w10.heap.size w10 ww) (fun jv _ => 100 - (intOf jv).toNat)
              case atStart => exact ⟨0, rfl, by omega, Below.refl _ _⟩
              case round =>
                obtain ⟨j, rfl, hj, hbi⟩ := hrel
                obtain ⟨wi, rfl⟩ : ∃ x, x = wr := ⟨wr, rfl⟩
                have HBI := hide hbi
                have s0 := (hbi.cell (p := ⟨g, off + k * 2, none⟩) hgl).trans HK0.out
                have s1 := (hbi.cell (p := ⟨g, off + k * 2 + 1, none⟩) hgl).trans HK1.out
                by_cases hjk : j < k
                · obtain ⟨j0, j1⟩ := HP5.out.below hgl hbi j (by omega)
                  have hne := HDK.out j hjk
                  generalize zs.getD j (0, 0) = y at j0 j1 hne
                  obtain ⟨y1, y2⟩ := y
                  simp only at j0 j1 hne
                  have hjm : j < m := by omega
                  clear hbi
                  by_cases e1 : y1 = x1
                  · have e2 : ¬ y2 = x2 := fun e => hne ⟨e1, e⟩
                    have t1 : (y1 == x1) = true := by simp [e1]
                    have t2 : (y2 == x2) = false := beq_eq_false_iff_ne.2 e2
                    clear hne e1 e2
                    go_wp2_with fail
                    go_quiet (fail)
                    go_wp2
                    go_roundw
                    case rel => exact ⟨j + 1, by go_num, by omega, by first | exact HBI.out | exact bel_drewN HBI.out _ | exact HBI.out.drew⟩
                    case measure => simp [intOf] <;> omega
                  · have t1 : (y1 == x1) = false := beq_eq_false_iff_ne.2 e1
                    clear hne e1
                    go_wp2_with fail
                    go_quiet (fail)
                    go_wp2
                    go_roundw
                    case rel => exact ⟨j + 1, by go_num, by omega, by first | exact HBI.out | exact bel_drewN HBI.out _ | exact HBI.out.drew⟩
                    case measure => simp [intOf] <;> omega
                · obtain rfl : j = k := by omega
                  have HQ2 := hide (HQ.out.below hbi)
                  have HQI2 := hide (HQI.out.below hbi)
                  have hB2 : Below w.heap.size w wi := hb9.trans (hbi.mono hb9.size)
                  have PO := hide (qPull_one b v wi HQ2.out)
                  have HBX0 := hide (hbi.cell (p := ⟨g, off + j * 2, none⟩) hgl)
                  have HBX1 := hide (hbi.cell (p := ⟨g, off + j * 2 + 1, none⟩) hgl)
                  clear hbi HBI s0 s1 HQ HQI
                  go_wp2_with fail
                  refine PO.out.mono ?_
                  rintro e w12 ⟨rfl, v12, hq12, hr12, hk12⟩
                  have hB12 := HQB.out.below hbb hB2 hk12 hB2.size
                  have HQB12 := hide (HQB.out.row hr12 hB2.size)
                  have hqi12 := HSEP.out.kept HQI2.out hk12
                  have HSEP12 := hide (HSEP.out.row HQI2.out hr12)
                  have HQ12 := hide hq12
                  have hp12 := hqi12.psl
                  obtain ⟨g0, g1⟩ : w12.cell? ⟨g, off + j * 2, none⟩ = some (.int .i64 x1) ∧ w12.cell? ⟨g, off + j * 2 + 1, none⟩ = some (.int .i64 x2) := by
                    have hg1 : g ∉ qS b v := fun hm2 => by
                      obtain ⟨z1, z2, _⟩ := HSEP.out g rfl
                      rcases mem_qS.1 hm2 with e | e
                      · exact z1 e
                      · exact z2 e
                    have hgi : g < wi.heap.size := HQI2.out.lt g rfl
                    exact ⟨(hk12.cell (p := ⟨g, off + j * 2, none⟩) hgi hg1).trans (((show wi.cell? ⟨g, off + j * 2, none⟩ = _ from HBX0.out)).trans HK0.out), (hk12.cell (p := ⟨g, off + j * 2 + 1, none⟩) hgi hg1).trans (HBX1.out.trans HK1.out)⟩
                  have HQI12 := hide hqi12
                  have hg12 := hqi12.lt g rfl
                  clear hq12 hr12 hk12 PO HQ2 HQI2 HSEP HQB hp12 hqi12
                  go_wp2_with fail
                  go_quiet (fail)
                  go_wp2
                  go_roundw
                  case rel => exact ⟨j + 1, v12, by go_num, by omega, QAt.below HQ12.out (bel_drewN ((Below.refl _ _).alloc (Nat.le_refl _) _) _), QRow.below HQI12.out (bel_drewN ((Below.refl _ _).alloc (Nat.le_refl _) _) _), HSEP12.out, HQB12.out, by first | exact bel_drewN (hB12.alloc hB12.size _) _ | exact hB12.trans (Below.mono (by go_grown : Below w12.heap.size w12 _) hB12.size)⟩
                  case measure => simp [intOf] <;> omega
          · obtain rfl : k = m := by omega
            rw [HM.out, List.drop_length] at hq
            have PN := hide (qPull_none b v w10 hq)
            clear hq hqi hsep hqb
            go_wp2_with fail
            refine PN.out.mono ?_
            rintro e w11 ⟨rfl, hb11⟩
            have hB11 : Below w.heap.size w w11 := hb9.trans (hb11.mono hb9.size)
            have hB11' : Below w.heap.size w (w11.alloc (.cells #[.int .i64 0, .int .i64 0] 29)) := hB11.alloc hB11.size _
            clear hb11 PN
            go_wp2_with fail
            refine (error_any 5 5 _ (hE.below (B := w.heap.size) (by first | exact hB11' | go_grown) hE.pos)).mono ?_
            rintro e w12 ⟨rfl, hb12⟩
            have hB12 : Below w.heap.size w w12 := hB11.trans ((bel_a1 hb12).mono hB11.size)
            go_wp2
            go_ret
            exact ⟨rfl, hB12⟩
    · obtain ⟨av, cv, rfl⟩ := qrow_form HI.out
      obtain ⟨m, hm9⟩ : ∃ m, m = zs.length := ⟨_, rfl⟩
      rw [← hm9] at HI HSEP hz8 ⊢
      have HM := hide hm9
      have tm : (m : Int) ≤ 8 := by omega
      have tm2 : ¬ (8 : Nat) < m := by omega
      clear hm9
      go_wp2_with fail
      go_loopw [12] (fun i wr => ∃ (k : Nat) (v : Value), i = .int .i64 k ∧ k ≤ m ∧ QAt 74 wr b v (zs.drop k) ∧ QRow wr (.slice av m cv) zs ∧ qSep w.heap.size b v (.slice av m cv) ∧ qB w.heap.size v ∧ Below w.heap.size w wr) (fun i _ => 100 - (intOf i).toNat)
      case atStart => exact ⟨0, v, rfl, by omega, HQ.out, HI.out, HSEP.out, HQB.out, hb9⟩
      case round =>
        clear HQ HI HSEP HQB hb9 hk4
        clear hk
        obtain ⟨k, v, rfl, hk, hq, hqi, hsep, hqb, hb9⟩ := hrel
        obtain ⟨w10, rfl⟩ : ∃ x, x = wr := ⟨wr, rfl⟩
        by_cases hkm : k < m
        · have hkz : k < zs.length := by rw [← HM.out]; exact hkm
          rw [qo_drop hkz] at hq
          obtain ⟨_, ⟨h0, _⟩ | ⟨g, off, cap3, hve, p2, p3, p4, p5, p6⟩⟩ := hqi
          · subst h0; simp at hkz
          · simp only [Value.slice.injEq] at hve
            obtain ⟨rfl, hme, rfl⟩ := hve
            obtain ⟨x, hx⟩ : ∃ x, x = zs.getD k (0, 0) := ⟨_, rfl⟩
            obtain ⟨k0, k1⟩ := p5 k hkz
            rw [← hx] at k0 k1 hq
            have HDK := hide (fun j (hj : j < k) => HD.out.at hj hkz)
            rw [← hx] at HDK
            have HP5 := hide p5
            have HQI : Hid (QRow w10 (.slice (some ⟨g, off, none⟩) m cv) zs) := hide ⟨by omega, .inr ⟨g, off, cv, by rw [hme], p2, p3, p4, p5, p6⟩⟩
            have HQ := hide hq
            have HSEP := hide hsep
            have HQB := hide hqb
            have hgl : g < w10.heap.size := p4
            have hmcv : m ≤ cv := by omega
            unfold maxLen at p3
            obtain ⟨x1, x2⟩ := x
            simp only at k0 k1
            have HK0 := hide k0
            have HK1 := hide k1
            clear p6 p5 p4 hq hsep hqb hx hme k0 k1
            go_wp2_with fail
            go_loopw [13] (fun jv ww => ∃ j : Nat, jv = .int .i64 j ∧ j ≤ k ∧ Below w10.heap.size w10 ww) (fun jv _ => 100 - (intOf jv).toNat)
            case atStart => exact ⟨0, rfl, by omega, Below.refl _ _⟩
            case round =>
              obtain ⟨j, rfl, hj, hbi⟩ := hrel
              obtain ⟨wi, rfl⟩ : ∃ x, x = wr := ⟨wr, rfl⟩
              have HBI := hide hbi
              have s0 := (hbi.cell (p := ⟨g, off + k * 2, none⟩) hgl).trans HK0.out
              have s1 := (hbi.cell (p := ⟨g, off + k * 2 + 1, none⟩) hgl).trans HK1.out
              by_cases hjk : j < k
              · obtain ⟨j0, j1⟩ := HP5.out.below hgl hbi j (by omega)
                have hne := HDK.out j hjk
                generalize zs.getD j (0, 0) = y at j0 j1 hne
                obtain ⟨y1, y2⟩ := y
                simp only at j0 j1 hne
                have hjm : j < m := by omega
                clear hbi
                by_cases e1 : y1 = x1
                · have e2 : ¬ y2 = x2 := fun e => hne ⟨e1, e⟩
                  have t1 : (y1 == x1) = true := by simp [e1]
                  have t2 : (y2 == x2) = false := beq_eq_false_iff_ne.2 e2
                  clear hne e1 e2
                  go_wp2_with fail
                  go_quiet (fail)
                  go_wp2
                  go_roundw
                  case rel => exact ⟨j + 1, by go_num, by omega, by first | exact HBI.out | exact bel_drewN HBI.out _ | exact HBI.out.drew⟩
                  case measure => simp [intOf] <;> omega
                · have t1 : (y1 == x1) = false := beq_eq_false_iff_ne.2 e1
                  clear hne e1
                  go_wp2_with fail
                  go_quiet (fail)
                  go_wp2
                  go_roundw
                  case rel => exact ⟨j + 1, by go_num, by omega, by first | exact HBI.out | exact bel_drewN HBI.out _ | exact HBI.out.drew⟩
                  case measure => simp [intOf] <;> omega
              · obtain rfl : j = k := by omega
                have HQ2 := hide (HQ.out.below hbi)
                have HQI2 := hide (HQI.out.below hbi)
                have hB2 : Below w.heap.size w wi := hb9.trans (hbi.mono hb9.size)
                have PO := hide (qPull_one b v wi HQ2.out)
                have HBX0 := hide (hbi.cell (p := ⟨g, off + j * 2, none⟩) hgl)
                have HBX1 := hide (hbi.cell (p := ⟨g, off + j * 2 + 1, none⟩) hgl)
                clear hbi HBI s0 s1 HQ HQI
                go_wp2_with fail
                refine PO.out.mono ?_
                rintro e w12 ⟨rfl, v12, hq12, hr12, hk12⟩
                have hB12 := HQB.out.below hbb hB2 hk12 hB2.size
                have HQB12 := hide (HQB.out.row hr12 hB2.size)
                have hqi12 := HSEP.out.kept HQI2.out hk12
                have HSEP12 := hide (HSEP.out.row HQI2.out hr12)
                have HQ12 := hide hq12
                have hp12 := hqi12.psl
                obtain ⟨g0, g1⟩ : w12.cell? ⟨g, off + j * 2, none⟩ = some (.int .i64 x1) ∧ w12.cell? ⟨g, off + j * 2 + 1, none⟩ = some (.int .i64 x2) := by
                  have hg1 : g ∉ qS b v := fun hm2 => by
                    obtain ⟨z1, z2, _⟩ := HSEP.out g rfl
                    rcases mem_qS.1 hm2 with e | e
                    · exact z1 e
                    · exact z2 e
                  have hgi : g < wi.heap.size := HQI2.out.lt g rfl
                  exact ⟨(hk12.cell (p := ⟨g, off + j * 2, none⟩) hgi hg1).trans (((show wi.cell? ⟨g, off + j * 2, none⟩ = _ from HBX0.out)).trans HK0.out), (hk12.cell (p := ⟨g, off + j * 2 + 1, none⟩) hgi hg1).trans (HBX1.out.trans HK1.out)⟩
                have HQI12 := hide hqi12
                have hg12 := hqi12.lt g rfl
                clear hq12 hr12 hk12 PO HQ2 HQI2 HSEP HQB hp12 hqi12
                go_wp2_with fail
                go_quiet (fail)
                go_wp2
                go_roundw
                case rel => exact ⟨j + 1, v12, by go_num, by omega, QAt.below HQ12.out (bel_drewN ((Below.refl _ _).alloc (Nat.le_refl _) _) _), QRow.below HQI12.out (bel_drewN ((Below.refl _ _).alloc (Nat.le_refl _) _) _), HSEP12.out, HQB12.out, by first | exact bel_drewN (hB12.alloc hB12.size _) _ | exact hB12.trans (Below.mono (by go_grown : Below w12.heap.size w12 _) hB12.size)⟩
                case measure => simp [intOf] <;> omega
        · obtain rfl : k = m := by omega
          rw [HM.out, List.drop_length] at hq
          have PN := hide (qPull_none b v w10 hq)
          clear hq hqi hsep hqb
          go_wp2_with fail
          refine PN.out.mono ?_
          rintro e w11 ⟨rfl, hb11⟩
          have hB11 : Below w.heap.size w w11 := hb9.trans (hb11.mono hb9.size)
          have hB11' : Below w.heap.size w (w11.alloc (.cells #[.int .i64 0, .int .i64 0] 29)) := hB11.alloc hB11.size _
          clear hb11 PN
          go_wp2_with fail
          refine (error_any 5 5 _ (hE.below (B := w.heap.size) (by first | exact hB11' | go_grown) hE.pos)).mono ?_
          rintro e w12 ⟨rfl, hb12⟩
          have hB12 : Below w.heap.size w w12 := hB11.trans ((bel_a1 hb12).mono hB11.size)
          go_wp2
          go_ret
          exact ⟨rfl, hB12⟩
end Go.Proofs.YtfehnfbmlomccaaDoor
