/- foldref1: Has, Drop, Spend (of what was spent) by contracts. foldref1: Spend (of what was spent) by contract. -/
import Derived.Test.YtlnghfmcofmkjaaGreatDoorRunAnswersProofM13
import Derived.Test.YtlnghfmcofmkjaaGreatDoorRunAnswersProofM15
namespace Go.Proofs.YtlnghfmcofmkjaaGreatDoor
open Go.RowKit

theorem any_snocP (zs : List (Int × Int)) (k : Nat) (hk : k < zs.length) (p : Int × Int → Bool) : (zs.take (k + 1)).any p = ((zs.take k).any p || p (zs.getD k (0, 0))) := by
  rw [take_snocP zs k hk, List.any_append]; simp
set_option maxHeartbeats 2000000 in
theorem rHas (n : Int) (v : Value) (zs : List (Int × Int)) (w : World) (hv : PSl w v zs) :
    Calls Tryz.prog 81 #[v, .int .i64 n] w fun e w' => e = .returned (.bool (zs.any (fun x => x.1 == n))) ∧ w = w' := by
  obtain ⟨hl, ⟨rfl, a, c, rfl⟩ | ⟨b, off, c, rfl, hc, hb, hpc⟩⟩ := hv
  · go_enter Tryz.func81, Tryz.ntmps81
    go_wp2
    go_rounds 1
    go_ret
    exact ⟨rfl, rfl⟩
  · obtain ⟨m, hn⟩ : ∃ m, m = zs.length := ⟨_, rfl⟩
    rw [← hn] at hl hc ⊢
    have Hn := hide hn
    have HPC := hide hpc
    clear hn hpc
    go_enter Tryz.func81, Tryz.ntmps81
    go_wp2_with fail
    go_loopw [5] (fun i wr => ∃ k : Nat, i = .int .i64 (k : Int) ∧ k ≤ m ∧ Hid ((zs.take k).any (fun x => x.1 == n) = false) ∧ wr = w) (fun i _ => 2000 - (intOf i).toNat)
    case atStart => exact ⟨0, rfl, by omega, hide (by simp), rfl⟩
    case round =>
      obtain ⟨k, rfl, hk, hall, rfl⟩ := hrel
      by_cases hlt : k < m
      · have hkz : k < zs.length := by rw [← Hn.out]; exact hlt
        obtain ⟨q0, q1⟩ := HPC.out k hkz
        have hs := any_snocP zs k hkz (fun x => x.1 == n)
        rw [hall.out, Bool.false_or] at hs
        obtain ⟨y, hy⟩ : ∃ y, y = zs.getD k (0, 0) := ⟨_, rfl⟩
        rw [← hy] at q0 q1 hs
        obtain ⟨y1, y2⟩ := y
        simp only at q0 q1 hs
        have HS := hide hs
        have HK := hide hkz
        clear hy hs hkz q1
        by_cases hq : y1 = n
        · have tq : (y1 == n) = true := by simp [hq]
          clear hq
          go_wp2
          go_ret
          refine ⟨?_, rfl⟩
          have h1 : (zs.take (k + 1)).any (fun x => x.1 == n) = true := by rw [HS.out, tq]
          have h2 : zs.any (fun x => x.1 == n) = true := by
            rw [List.any_eq_true] at h1 ⊢
            obtain ⟨x, hx, hp⟩ := h1
            exact ⟨x, List.mem_of_mem_take hx, hp⟩
          rw [h2]; rfl
        · have tq : (y1 == n) = false := beq_eq_false_iff_ne.2 hq
          clear hq
          go_wp2
          go_roundw
          case rel => exact ⟨k + 1, by go_num, by omega, hide (by rw [HS.out, tq]), by first | rfl | trivial⟩
          case measure => simp [intOf] <;> omega
      · obtain rfl : k = m := by omega
        have h2 : zs.any (fun x => x.1 == n) = false := by have := hall.out; rwa [Hn.out, List.take_length] at this
        go_wp2
        go_ret
        exact ⟨by rw [h2]; rfl, rfl⟩
theorem spDrop_snoc (zs : List (Int × Int)) (now : Int) (k : Nat) (hk : k < zs.length) : spDrop (zs.take (k + 1)) now = if (zs.getD k (0, 0)).2 < now then spDrop (zs.take k) now else spDrop (zs.take k) now ++ [zs.getD k (0, 0)] := by
  unfold spDrop
  rw [take_snocP zs k hk, List.filter_append]
  by_cases h : (zs.getD k (0, 0)).2 < now
  · rw [if_pos h, List.filter_cons_of_neg (by rw [decide_eq_true h]; decide), List.filter_nil, List.append_nil]
  · rw [if_neg h, List.filter_cons_of_pos (by rw [decide_eq_false h]; rfl), List.filter_nil]
set_option maxRecDepth 100000 in
set_option maxHeartbeats 4000000 in
theorem rDrop (now : Int) (v : Value) (zs : List (Int × Int)) (w : World) (hv : PSl w v zs) :
    Calls Tryz.prog 80 #[v, .int .i64 now] w fun e w' => ∃ v', e = .returned v' ∧ w'.ownsRow w.heap.size 173 2 v' (spDrop zs now).length (flat (spDrop zs now)) ∧ Below w.heap.size w w' := by
  obtain ⟨i0, hi0, hz0, hz1, hz2⟩ := info_parts Tryz.infoSp
  have Hi0 := hide hi0
  have Hz0 := hide hz0
  have Hz1 := hide hz1
  have Hz2 := hide hz2
  clear hi0 hz0 hz1 hz2
  obtain ⟨hl, ⟨rfl, a, c, rfl⟩ | ⟨b, off, c, rfl, hc, hb, hpc⟩⟩ := hv
  · go_enter Tryz.func80, Tryz.ntmps80
    go_wp2
    go_rounds 1
    go_ret
    exact ⟨_, rfl, World.ownsRow_nil _ _ _ _, Below.refl _ _⟩
  · obtain ⟨m, hn⟩ : ∃ m, m = zs.length := ⟨_, rfl⟩
    rw [← hn] at hl hc ⊢
    have Hn := hide hn
    have HPC := hide hpc
    clear hn hpc
    go_enter Tryz.func80, Tryz.ntmps80
    go_wp2_with fail
    go_loopw [5, 6] (fun o i wr => ∃ (k : Nat) (ds : List (Int × Int)), i = .int .i64 (k : Int) ∧ k ≤ m ∧ Hid (ds = spDrop (zs.take k) now) ∧ ds.length ≤ k ∧ wr.ownsRow w.heap.size 173 2 o ds.length (flat ds) ∧ Below w.heap.size w wr) (fun _ i _ => 2000 - (intOf i).toNat)
    case atStart => exact ⟨0, [], rfl, by omega, hide (by simp [spDrop]), by simp, World.ownsRow_nil _ _ _ _, Below.refl _ _⟩
    case round =>
      obtain ⟨k, ds, rfl, hk, hds, hdl, hown, hbw⟩ := hrel
      obtain ⟨av, cv, rfl⟩ := own_sl hown
      have HO := hide hown
      have HBW := hide hbw
      have hyr : w.heap.size ≤ wr.heap.size := hbw.size
      by_cases hlt : k < m
      · have hkz : k < zs.length := by rw [← Hn.out]; exact hlt
        obtain ⟨q0, q1⟩ := HPC.out.below hb hbw k hkz
        have hs := spDrop_snoc zs now k hkz
        rw [← hds.out] at hs
        obtain ⟨y, hy⟩ : ∃ y, y = zs.getD k (0, 0) := ⟨_, rfl⟩
        rw [← hy] at q0 q1 hs
        obtain ⟨y1, y2⟩ := y
        simp only at q0 q1 hs
        have HS := hide hs
        clear hy hs hkz hown hbw hds
        by_cases hq : y2 < now
        · go_wp2
          go_roundw
          case rel => exact ⟨k + 1, ds, by go_num, by omega, hide (by have := HS.out; rw [if_pos (by omega)] at this; exact this.symm), by omega, HO.out, HBW.out⟩
          case measure => simp [intOf] <;> omega
        · have hq' : now ≤ y2 := by omega
          go_wp2_with (first | (at_builtin; refine wpList_append_own _ rfl _ _ 58 rfl (w.heap.size) 173 i0 _ 2 16 Tryz.underlying58 Hi0.out Hz0.out Hz1.out Hz2.out rfl (by decide) _ _ _ rfl (HO.out.alloc _) ⟨wr.heap.size, 0, none⟩ 1 1 [.int .i64 y1, .int .i64 y2] rfl rfl ?c1 ?c2 ?c3 ?c4 ?c5 ?_))
          case c2 => exact ⟨rfl, rfl⟩
          case c3 => unfold maxLen; omega
          case c4 => omega
          case c5 => first | omega | (simp; omega)
          intro v2 w40 hown2 hgrow _
          have hg0 : ∀ q, (Value.slice av ds.length cv).ownBlock = some q → w.heap.size ≤ q := own_blk HO.out
          have HB40 := hide (grown_below (HBW.out.alloc hyr _) hgrow hg0 (by simp; omega))
          have HO2 : Hid (w40.ownsRow w.heap.size 173 2 v2 (ds ++ [(y1, y2)]).length (flat (ds ++ [(y1, y2)]))) := hide (by rw [flat_append]; simpa [flat_cons, flat_nil] using hown2)
          clear hown2 hgrow hg0
          go_wp2
          go_roundw
          case rel => exact ⟨k + 1, ds ++ [(y1, y2)], by go_num, by omega, hide (by have := HS.out; rw [if_neg (by omega)] at this; exact this.symm), by simp; omega, HO2.out, HB40.out⟩
          case measure => simp [intOf] <;> omega
      · obtain rfl : k = m := by omega
        have e : spDrop zs now = ds := by rw [hds.out, Hn.out, List.take_length]
        clear hown hbw
        go_wp2
        go_ret
        exact ⟨_, rfl, by rw [e]; exact HO.out, HBW.out⟩
end Go.Proofs.YtlnghfmcofmkjaaGreatDoor

namespace Go.Proofs.YtlnghfmcofmkjaaGreatDoor
open Go.RowKit

set_option maxRecDepth 100000 in
set_option maxHeartbeats 4000000 in
theorem rSpend_bad {n u now c : Int} {zs : List (Int × Int)} (h16 : zs.length ≤ 16) (hc : spMoreE zs n u now = c) (h0 : c ≠ 0) (v : Value) (w : World) (hv : PSl w v zs) :
    Calls Tryz.prog 58 #[v, .int .i64 n, .int .i64 u, .int .i64 now] w fun e w' => e = .returned (.tuple #[.slice none 0 0, .int .i64 c]) ∧ Below w.heap.size w w' := by
  obtain ⟨vi, hvi⟩ : ∃ v, inB n = v := ⟨_, rfl⟩
  obtain ⟨vu, hvu⟩ : ∃ v, tmB u = v := ⟨_, rfl⟩
  obtain ⟨vw, hvw⟩ : ∃ v, tmB now = v := ⟨_, rfl⟩
  have IN := hide (fun W => rIn_eq hvi W)
  have TU := hide (fun W => rTime_eq hvu W)
  have TW := hide (fun W => rTime_eq hvw W)
  have CL := hide (rDrop now v zs w hv)
  have hdr := spDrop_le zs now
  unfold spMoreE at hc
  rw [hvi, hvu, hvw] at hc
  clear hv hvi hvu hvw
  cases vi
  ·
    cases vu
    ·
      cases vw
      ·
        rw [if_pos (by decide)] at hc
        subst hc
        clear CL h0 hdr h16
        go_enter Tryz.func58, Tryz.ntmps58
        go_wp2_with fail
        refine (IN.out _).mono ?_
        rintro e w500 ⟨rfl, rfl⟩
        go_wp2_with fail
        refine (TU.out _).mono ?_
        rintro e w500 ⟨rfl, rfl⟩
        go_wp2_with fail
        refine (TW.out _).mono ?_
        rintro e w500 ⟨rfl, rfl⟩
        go_wp2
        go_ret2
        exact ⟨rfl, Below.refl _ _⟩
      ·
        rw [if_pos (by decide)] at hc
        subst hc
        clear CL h0 hdr h16
        go_enter Tryz.func58, Tryz.ntmps58
        go_wp2_with fail
        refine (IN.out _).mono ?_
        rintro e w500 ⟨rfl, rfl⟩
        go_wp2_with fail
        refine (TU.out _).mono ?_
        rintro e w500 ⟨rfl, rfl⟩
        go_wp2_with fail
        refine (TW.out _).mono ?_
        rintro e w500 ⟨rfl, rfl⟩
        go_wp2
        go_ret2
        exact ⟨rfl, Below.refl _ _⟩
    ·
      cases vw
      ·
        rw [if_pos (by decide)] at hc
        subst hc
        clear CL h0 hdr h16
        go_enter Tryz.func58, Tryz.ntmps58
        go_wp2_with fail
        refine (IN.out _).mono ?_
        rintro e w500 ⟨rfl, rfl⟩
        go_wp2_with fail
        refine (TU.out _).mono ?_
        rintro e w500 ⟨rfl, rfl⟩
        go_wp2_with fail
        refine (TW.out _).mono ?_
        rintro e w500 ⟨rfl, rfl⟩
        go_wp2
        go_ret2
        exact ⟨rfl, Below.refl _ _⟩
      ·
        rw [if_pos (by decide)] at hc
        subst hc
        clear CL h0 hdr h16
        go_enter Tryz.func58, Tryz.ntmps58
        go_wp2_with fail
        refine (IN.out _).mono ?_
        rintro e w500 ⟨rfl, rfl⟩
        go_wp2_with fail
        refine (TU.out _).mono ?_
        rintro e w500 ⟨rfl, rfl⟩
        go_wp2_with fail
        refine (TW.out _).mono ?_
        rintro e w500 ⟨rfl, rfl⟩
        go_wp2
        go_ret2
        exact ⟨rfl, Below.refl _ _⟩
  ·
    cases vu
    ·
      cases vw
      ·
        rw [if_pos (by decide)] at hc
        subst hc
        clear CL h0 hdr h16
        go_enter Tryz.func58, Tryz.ntmps58
        go_wp2_with fail
        refine (IN.out _).mono ?_
        rintro e w500 ⟨rfl, rfl⟩
        go_wp2_with fail
        refine (TU.out _).mono ?_
        rintro e w500 ⟨rfl, rfl⟩
        go_wp2_with fail
        refine (TW.out _).mono ?_
        rintro e w500 ⟨rfl, rfl⟩
        go_wp2
        go_ret2
        exact ⟨rfl, Below.refl _ _⟩
      ·
        rw [if_pos (by decide)] at hc
        subst hc
        clear CL h0 hdr h16
        go_enter Tryz.func58, Tryz.ntmps58
        go_wp2_with fail
        refine (IN.out _).mono ?_
        rintro e w500 ⟨rfl, rfl⟩
        go_wp2_with fail
        refine (TU.out _).mono ?_
        rintro e w500 ⟨rfl, rfl⟩
        go_wp2_with fail
        refine (TW.out _).mono ?_
        rintro e w500 ⟨rfl, rfl⟩
        go_wp2
        go_ret2
        exact ⟨rfl, Below.refl _ _⟩
    ·
      cases vw
      ·
        rw [if_pos (by decide)] at hc
        subst hc
        clear CL h0 hdr h16
        go_enter Tryz.func58, Tryz.ntmps58
        go_wp2_with fail
        refine (IN.out _).mono ?_
        rintro e w500 ⟨rfl, rfl⟩
        go_wp2_with fail
        refine (TU.out _).mono ?_
        rintro e w500 ⟨rfl, rfl⟩
        go_wp2_with fail
        refine (TW.out _).mono ?_
        rintro e w500 ⟨rfl, rfl⟩
        go_wp2
        go_ret2
        exact ⟨rfl, Below.refl _ _⟩
      ·
        rw [if_neg (by decide)] at hc
        by_cases h9 : u < now
        ·
          rw [if_pos h9] at hc
          subst hc
          clear h0 CL hdr h16
          go_enter Tryz.func58, Tryz.ntmps58
          go_wp2_with fail
          refine (IN.out _).mono ?_
          rintro e w500 ⟨rfl, rfl⟩
          go_wp2_with fail
          refine (TU.out _).mono ?_
          rintro e w500 ⟨rfl, rfl⟩
          go_wp2_with fail
          refine (TW.out _).mono ?_
          rintro e w500 ⟨rfl, rfl⟩
          go_wp2
          go_ret2
          exact ⟨rfl, Below.refl _ _⟩
        ·
          rw [if_neg h9] at hc
          have h9' : now ≤ u := by omega
          obtain ⟨ds, hds⟩ : ∃ ds, ds = spDrop zs now := ⟨_, rfl⟩
          rw [← hds] at CL hc hdr
          have hdl : ds.length ≤ 16 := Nat.le_trans hdr h16
          obtain ⟨av, hav⟩ : ∃ av, av = ds.any (fun x => x.1 == n) := ⟨_, rfl⟩
          rw [← hav] at hc
          have HAV := hide hav
          clear hds hav h9 hdr
          cases av
          ·
            rw [if_neg (by simp)] at hc
            by_cases h17 : ds.length = 16
            ·
              rw [if_pos h17] at hc
              subst hc
              have t17 : (16 : Int) ≤ ds.length := by omega
              clear h0 h17 h16
              go_enter Tryz.func58, Tryz.ntmps58
              go_wp2_with fail
              refine (IN.out _).mono ?_
              rintro e w500 ⟨rfl, rfl⟩
              go_wp2_with fail
              refine (TU.out _).mono ?_
              rintro e w500 ⟨rfl, rfl⟩
              go_wp2_with fail
              refine (TW.out _).mono ?_
              rintro e w500 ⟨rfl, rfl⟩
              go_wp2_with fail
              refine CL.out.mono ?_
              rintro e w1 ⟨v1, rfl, hown1, hb1⟩
              have CI := hide (rHas n v1 ds w1 (own_psl hown1 (by omega)))
              rw [← HAV.out] at CI
              obtain ⟨a1, c1, hv1⟩ := own_sl hown1
              subst hv1
              have HOWN := hide hown1
              have HB1 := hide hb1
              have hs1 : w.heap.size ≤ w1.heap.size := hb1.size
              clear hown1 hb1
              go_wp2_with fail
              refine CI.out.mono ?_
              rintro e w500 ⟨rfl, rfl⟩
              go_wp2
              go_ret2
              exact ⟨rfl, HB1.out⟩
            ·
              rw [if_neg h17] at hc; exact absurd hc.symm h0
          ·
            rw [if_pos rfl] at hc
            subst hc
            clear h0 h16
            go_enter Tryz.func58, Tryz.ntmps58
            go_wp2_with fail
            refine (IN.out _).mono ?_
            rintro e w500 ⟨rfl, rfl⟩
            go_wp2_with fail
            refine (TU.out _).mono ?_
            rintro e w500 ⟨rfl, rfl⟩
            go_wp2_with fail
            refine (TW.out _).mono ?_
            rintro e w500 ⟨rfl, rfl⟩
            go_wp2_with fail
            refine CL.out.mono ?_
            rintro e w1 ⟨v1, rfl, hown1, hb1⟩
            have CI := hide (rHas n v1 ds w1 (own_psl hown1 (by omega)))
            rw [← HAV.out] at CI
            obtain ⟨a1, c1, hv1⟩ := own_sl hown1
            subst hv1
            have HOWN := hide hown1
            have HB1 := hide hb1
            have hs1 : w.heap.size ≤ w1.heap.size := hb1.size
            clear hown1 hb1
            go_wp2_with fail
            refine CI.out.mono ?_
            rintro e w500 ⟨rfl, rfl⟩
            go_wp2
            go_ret2
            exact ⟨rfl, HB1.out⟩
set_option maxRecDepth 100000 in
set_option maxHeartbeats 4000000 in
theorem rSpend_ok {n u now : Int} {zs : List (Int × Int)} (h16 : zs.length ≤ 16) (hc : spMoreE zs n u now = 0) (v : Value) (w : World) (hv : PSl w v zs) :
    Calls Tryz.prog 58 #[v, .int .i64 n, .int .i64 u, .int .i64 now] w fun e w' => ∃ v', e = .returned (.tuple #[v', .int .i64 0]) ∧ w'.ownsRow w.heap.size 173 2 v' (spDrop zs now ++ [(n, u)]).length (flat (spDrop zs now ++ [(n, u)])) ∧ Below w.heap.size w w' := by
  obtain ⟨_, hn, hu, hw, hle, hav, hne⟩ := (spMore_cases zs n u now).resolve_right (fun hx => hx hc)
  have IN := hide (fun W => rIn_eq hn W)
  have TU := hide (fun W => rTime_eq hu W)
  have TW := hide (fun W => rTime_eq hw W)
  have CL := hide (rDrop now v zs w hv)
  have hdr := spDrop_le zs now
  obtain ⟨ds, hds⟩ : ∃ ds, ds = spDrop zs now := ⟨_, rfl⟩
  rw [← hds] at CL hdr hav hne ⊢
  have hdl : ds.length < 16 := by omega
  have t17 : ¬ (16 : Int) ≤ ds.length := by omega
  obtain ⟨i0, hi0, hz0, hz1, hz2⟩ := info_parts Tryz.infoSp
  have Hi0 := hide hi0
  have Hz0 := hide hz0
  have Hz1 := hide hz1
  have Hz2 := hide hz2
  have HAV := hide hav.symm
  clear hv hc hn hu hw hav hne hdr hds h16 hi0 hz0 hz1 hz2
  go_enter Tryz.func58, Tryz.ntmps58
  go_wp2_with fail
  refine (IN.out _).mono ?_
  rintro e w500 ⟨rfl, rfl⟩
  go_wp2_with fail
  refine (TU.out _).mono ?_
  rintro e w500 ⟨rfl, rfl⟩
  go_wp2_with fail
  refine (TW.out _).mono ?_
  rintro e w500 ⟨rfl, rfl⟩
  go_wp2_with fail
  refine CL.out.mono ?_
  rintro e w1 ⟨v1, rfl, hown1, hb1⟩
  have CI := hide (rHas n v1 ds w1 (own_psl hown1 (by omega)))
  rw [← HAV.out] at CI
  obtain ⟨a1, c1, hv1⟩ := own_sl hown1
  subst hv1
  have HOWN := hide hown1
  have HB1 := hide hb1
  have hs1 : w.heap.size ≤ w1.heap.size := hb1.size
  clear hown1 hb1
  go_wp2_with fail
  refine CI.out.mono ?_
  rintro e w500 ⟨rfl, rfl⟩
  go_wp2_with (first | (at_builtin; refine wpList_append_own _ rfl _ _ 58 rfl (w.heap.size) 173 i0 _ 2 16 Tryz.underlying58 Hi0.out Hz0.out Hz1.out Hz2.out rfl (by decide) _ _ _ rfl (HOWN.out.alloc _) ⟨w1.heap.size, 0, none⟩ 1 1 [.int .i64 n, .int .i64 u] rfl rfl ?c1 ?c2 ?c3 ?c4 ?c5 ?_))
  case c1 =>
    intro j q hj
    match j, hj with
    | 0, hj => simp at hj; subst hj; simp [Addr.add]
    | 1, hj => simp at hj; subst hj; simp [Addr.add]
  case c2 =>
    intro q hq
    simp at hq
    rcases hq with rfl | rfl <;> rfl
  case c3 => unfold maxLen; omega
  case c4 => omega
  case c5 => first | omega | (simp; omega)
  intro v2 w40 hown2 hgrow _
  have hg0 : ∀ q, (Value.slice a1 ds.length c1).ownBlock = some q → w.heap.size ≤ q := own_blk HOWN.out
  have HB40 := hide (grown_below (HB1.out.alloc hs1 _) hgrow hg0 (by simp; omega))
  have HO2 : Hid (w40.ownsRow w.heap.size 173 2 v2 (ds ++ [(n, u)]).length (flat (ds ++ [(n, u)]))) := hide (by rw [flat_append]; simpa [flat_cons, flat_nil] using hown2)
  clear hown2 hgrow hg0
  go_wp2
  go_ret2
  exact ⟨v2, rfl, HO2.out, HB40.out⟩
end Go.Proofs.YtlnghfmcofmkjaaGreatDoor
