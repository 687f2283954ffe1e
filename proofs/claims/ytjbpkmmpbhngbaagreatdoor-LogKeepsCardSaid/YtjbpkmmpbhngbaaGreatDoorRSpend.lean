/- foldref1: Spend (of what was spent) by contract. -/
import Derived.Test.YtjbpkmmpbhngbaaGreatDoorRSpent
namespace Go.Proofs.YtjbpkmmpbhngbaaGreatDoor
open Go.RowKit

set_option maxRecDepth 100000 in
set_option maxHeartbeats 4000000 in
theorem rSpend_bad {n u now c : Int} {zs : List (Int × Int)} (h16 : zs.length ≤ 16) (hc : spMoreE zs n u now = c) (h0 : c ≠ 0) (v : Value) (w : World) (hv : PSl w v zs) :
    Calls Tryz.prog 15 #[v, .int .i64 n, .int .i64 u, .int .i64 now] w fun e w' => e = .returned (.tuple #[.slice none 0 0, .int .i64 c]) ∧ Below w.heap.size w w' := by
  obtain ⟨vi, hvi⟩ : ∃ v, inB n = v := ⟨_, rfl⟩
  obtain ⟨vu, hvu⟩ : ∃ v, tmB u = v := ⟨_, rfl⟩
  obtain ⟨vw, hvw⟩ : ∃ v, tmB now = v := ⟨_, rfl⟩
  have IN := hide (fun W => rIn_eq hvi W)
  have TU := hide (fun W => rTime_eq hvu W)
  have TW := hide (fun W => rTime_eq hvw W)
  have CL := hide (rDrop now v zs w hv)
  have hdr := spDrop_le zs now
  unfold spMoreE at hc
  rw [hvi, hvu, hvw] at hc
  clear hv hvi hvu hvw
  cases vi
  ·
    cases vu
    ·
      cases vw
      ·
        rw [if_pos (by decide)] at hc
        subst hc
        clear CL h0 hdr h16
        go_enter Tryz.func15, Tryz.ntmps15
        go_wp2_with fail
        refine (IN.out _).mono ?_
        rintro e w500 ⟨rfl, rfl⟩
        go_wp2_with fail
        refine (TU.out _).mono ?_
        rintro e w500 ⟨rfl, rfl⟩
        go_wp2_with fail
        refine (TW.out _).mono ?_
        rintro e w500 ⟨rfl, rfl⟩
        go_wp2
        go_ret2
        exact ⟨rfl, Below.refl _ _⟩
      ·
        rw [if_pos (by decide)] at hc
        subst hc
        clear CL h0 hdr h16
        go_enter Tryz.func15, Tryz.ntmps15
        go_wp2_with fail
        refine (IN.out _).mono ?_
        rintro e w500 ⟨rfl, rfl⟩
        go_wp2_with fail
        refine (TU.out _).mono ?_
        rintro e w500 ⟨rfl, rfl⟩
        go_wp2_with fail
        refine (TW.out _).mono ?_
        rintro e w500 ⟨rfl, rfl⟩
        go_wp2
        go_ret2
        exact ⟨rfl, Below.refl _ _⟩
    ·
      cases vw
      ·
        rw [if_pos (by decide)] at hc
        subst hc
        clear CL h0 hdr h16
        go_enter Tryz.func15, Tryz.ntmps15
        go_wp2_with fail
        refine (IN.out _).mono ?_
        rintro e w500 ⟨rfl, rfl⟩
        go_wp2_with fail
        refine (TU.out _).mono ?_
        rintro e w500 ⟨rfl, rfl⟩
        go_wp2_with fail
        refine (TW.out _).mono ?_
        rintro e w500 ⟨rfl, rfl⟩
        go_wp2
        go_ret2
        exact ⟨rfl, Below.refl _ _⟩
      ·
        rw [if_pos (by decide)] at hc
        subst hc
        clear CL h0 hdr h16
        go_enter Tryz.func15, Tryz.ntmps15
        go_wp2_with fail
        refine (IN.out _).mono ?_
        rintro e w500 ⟨rfl, rfl⟩
        go_wp2_with fail
        refine (TU.out _).mono ?_
        rintro e w500 ⟨rfl, rfl⟩
        go_wp2_with fail
        refine (TW.out _).mono ?_
        rintro e w500 ⟨rfl, rfl⟩
        go_wp2
        go_ret2
        exact ⟨rfl, Below.refl _ _⟩
  ·
    cases vu
    ·
      cases vw
      ·
        rw [if_pos (by decide)] at hc
        subst hc
        clear CL h0 hdr h16
        go_enter Tryz.func15, Tryz.ntmps15
        go_wp2_with fail
        refine (IN.out _).mono ?_
        rintro e w500 ⟨rfl, rfl⟩
        go_wp2_with fail
        refine (TU.out _).mono ?_
        rintro e w500 ⟨rfl, rfl⟩
        go_wp2_with fail
        refine (TW.out _).mono ?_
        rintro e w500 ⟨rfl, rfl⟩
        go_wp2
        go_ret2
        exact ⟨rfl, Below.refl _ _⟩
      ·
        rw [if_pos (by decide)] at hc
        subst hc
        clear CL h0 hdr h16
        go_enter Tryz.func15, Tryz.ntmps15
        go_wp2_with fail
        refine (IN.out _).mono ?_
        rintro e w500 ⟨rfl, rfl⟩
        go_wp2_with fail
        refine (TU.out _).mono ?_
        rintro e w500 ⟨rfl, rfl⟩
        go_wp2_with fail
        refine (TW.out _).mono ?_
        rintro e w500 ⟨rfl, rfl⟩
        go_wp2
        go_ret2
        exact ⟨rfl, Below.refl _ _⟩
    ·
      cases vw
      ·
        rw [if_pos (by decide)] at hc
        subst hc
        clear CL h0 hdr h16
        go_enter Tryz.func15, Tryz.ntmps15
        go_wp2_with fail
        refine (IN.out _).mono ?_
        rintro e w500 ⟨rfl, rfl⟩
        go_wp2_with fail
        refine (TU.out _).mono ?_
        rintro e w500 ⟨rfl, rfl⟩
        go_wp2_with fail
        refine (TW.out _).mono ?_
        rintro e w500 ⟨rfl, rfl⟩
        go_wp2
        go_ret2
        exact ⟨rfl, Below.refl _ _⟩
      ·
        rw [if_neg (by decide)] at hc
        by_cases h9 : u < now
        ·
          rw [if_pos h9] at hc
          subst hc
          clear h0 CL hdr h16
          go_enter Tryz.func15, Tryz.ntmps15
          go_wp2_with fail
          refine (IN.out _).mono ?_
          rintro e w500 ⟨rfl, rfl⟩
          go_wp2_with fail
          refine (TU.out _).mono ?_
          rintro e w500 ⟨rfl, rfl⟩
          go_wp2_with fail
          refine (TW.out _).mono ?_
          rintro e w500 ⟨rfl, rfl⟩
          go_wp2
          go_ret2
          exact ⟨rfl, Below.refl _ _⟩
        ·
          rw [if_neg h9] at hc
          have h9' : now ≤ u := by omega
          obtain ⟨ds, hds⟩ : ∃ ds, ds = spDrop zs now := ⟨_, rfl⟩
          rw [← hds] at CL hc hdr
          have hdl : ds.length ≤ 16 := Nat.le_trans hdr h16
          obtain ⟨av, hav⟩ : ∃ av, av = ds.any (fun x => x.1 == n) := ⟨_, rfl⟩
          rw [← hav] at hc
          have HAV := hide hav
          clear hds hav h9 hdr
          cases av
          ·
            rw [if_neg (by simp)] at hc
            by_cases h17 : ds.length = 16
            ·
              rw [if_pos h17] at hc
              subst hc
              have t17 : (16 : Int) ≤ ds.length := by omega
              clear h0 h17 h16
              go_enter Tryz.func15, Tryz.ntmps15
              go_wp2_with fail
              refine (IN.out _).mono ?_
              rintro e w500 ⟨rfl, rfl⟩
              go_wp2_with fail
              refine (TU.out _).mono ?_
              rintro e w500 ⟨rfl, rfl⟩
              go_wp2_with fail
              refine (TW.out _).mono ?_
              rintro e w500 ⟨rfl, rfl⟩
              go_wp2_with fail
              refine CL.out.mono ?_
              rintro e w1 ⟨v1, rfl, hown1, hb1⟩
              have CI := hide (rHas n v1 ds w1 (own_psl hown1 (by omega)))
              rw [← HAV.out] at CI
              obtain ⟨a1, c1, hv1⟩ := own_sl hown1
              subst hv1
              have HOWN := hide hown1
              have HB1 := hide hb1
              have hs1 : w.heap.size ≤ w1.heap.size := hb1.size
              clear hown1 hb1
              go_wp2_with fail
              refine CI.out.mono ?_
              rintro e w500 ⟨rfl, rfl⟩
              go_wp2
              go_ret2
              exact ⟨rfl, HB1.out⟩
            ·
              rw [if_neg h17] at hc; exact absurd hc.symm h0
          ·
            rw [if_pos rfl] at hc
            subst hc
            clear h0 h16
            go_enter Tryz.func15, Tryz.ntmps15
            go_wp2_with fail
            refine (IN.out _).mono ?_
            rintro e w500 ⟨rfl, rfl⟩
            go_wp2_with fail
            refine (TU.out _).mono ?_
            rintro e w500 ⟨rfl, rfl⟩
            go_wp2_with fail
            refine (TW.out _).mono ?_
            rintro e w500 ⟨rfl, rfl⟩
            go_wp2_with fail
            refine CL.out.mono ?_
            rintro e w1 ⟨v1, rfl, hown1, hb1⟩
            have CI := hide (rHas n v1 ds w1 (own_psl hown1 (by omega)))
            rw [← HAV.out] at CI
            obtain ⟨a1, c1, hv1⟩ := own_sl hown1
            subst hv1
            have HOWN := hide hown1
            have HB1 := hide hb1
            have hs1 : w.heap.size ≤ w1.heap.size := hb1.size
            clear hown1 hb1
            go_wp2_with fail
            refine CI.out.mono ?_
            rintro e w500 ⟨rfl, rfl⟩
            go_wp2
            go_ret2
            exact ⟨rfl, HB1.out⟩
set_option maxRecDepth 100000 in
set_option maxHeartbeats 4000000 in
theorem rSpend_ok {n u now : Int} {zs : List (Int × Int)} (h16 : zs.length ≤ 16) (hc : spMoreE zs n u now = 0) (v : Value) (w : World) (hv : PSl w v zs) :
    Calls Tryz.prog 15 #[v, .int .i64 n, .int .i64 u, .int .i64 now] w fun e w' => ∃ v', e = .returned (.tuple #[v', .int .i64 0]) ∧ w'.ownsRow w.heap.size 34 2 v' (spDrop zs now ++ [(n, u)]).length (flat (spDrop zs now ++ [(n, u)])) ∧ Below w.heap.size w w' := by
  obtain ⟨_, hn, hu, hw, hle, hav, hne⟩ := (spMore_cases zs n u now).resolve_right (fun hx => hx hc)
  have IN := hide (fun W => rIn_eq hn W)
  have TU := hide (fun W => rTime_eq hu W)
  have TW := hide (fun W => rTime_eq hw W)
  have CL := hide (rDrop now v zs w hv)
  have hdr := spDrop_le zs now
  obtain ⟨ds, hds⟩ : ∃ ds, ds = spDrop zs now := ⟨_, rfl⟩
  rw [← hds] at CL hdr hav hne ⊢
  have hdl : ds.length < 16 := by omega
  have t17 : ¬ (16 : Int) ≤ ds.length := by omega
  obtain ⟨i0, hi0, hz0, hz1, hz2⟩ := info_parts Tryz.infoSp
  have Hi0 := hide hi0
  have Hz0 := hide hz0
  have Hz1 := hide hz1
  have Hz2 := hide hz2
  have HAV := hide hav.symm
  clear hv hc hn hu hw hav hne hdr hds h16 hi0 hz0 hz1 hz2
  go_enter Tryz.func15, Tryz.ntmps15
  go_wp2_with fail
  refine (IN.out _).mono ?_
  rintro e w500 ⟨rfl, rfl⟩
  go_wp2_with fail
  refine (TU.out _).mono ?_
  rintro e w500 ⟨rfl, rfl⟩
  go_wp2_with fail
  refine (TW.out _).mono ?_
  rintro e w500 ⟨rfl, rfl⟩
  go_wp2_with fail
  refine CL.out.mono ?_
  rintro e w1 ⟨v1, rfl, hown1, hb1⟩
  have CI := hide (rHas n v1 ds w1 (own_psl hown1 (by omega)))
  rw [← HAV.out] at CI
  obtain ⟨a1, c1, hv1⟩ := own_sl hown1
  subst hv1
  have HOWN := hide hown1
  have HB1 := hide hb1
  have hs1 : w.heap.size ≤ w1.heap.size := hb1.size
  clear hown1 hb1
  go_wp2_with fail
  refine CI.out.mono ?_
  rintro e w500 ⟨rfl, rfl⟩
  go_wp2_with (first | (at_builtin; refine wpList_append_own _ rfl _ _ 31 rfl (w.heap.size) 34 i0 _ 2 16 Tryz.underlying31 Hi0.out Hz0.out Hz1.out Hz2.out rfl (by decide) _ _ _ rfl (HOWN.out.alloc _) ⟨w1.heap.size, 0, none⟩ 1 1 [.int .i64 n, .int .i64 u] rfl rfl ?c1 ?c2 ?c3 ?c4 ?c5 ?_))
  case c1 =>
    intro j q hj
    match j, hj with
    | 0, hj => simp at hj; subst hj; simp [Addr.add]
    | 1, hj => simp at hj; subst hj; simp [Addr.add]
  case c2 =>
    intro q hq
    simp at hq
    rcases hq with rfl | rfl <;> rfl
  case c3 => unfold maxLen; omega
  case c4 => omega
  case c5 => first | omega | (simp; omega)
  intro v2 w40 hown2 hgrow _
  have hg0 : ∀ q, (Value.slice a1 ds.length c1).ownBlock = some q → w.heap.size ≤ q := own_blk HOWN.out
  have HB40 := hide (grown_below (HB1.out.alloc hs1 _) hgrow hg0 (by simp; omega))
  have HO2 : Hid (w40.ownsRow w.heap.size 34 2 v2 (ds ++ [(n, u)]).length (flat (ds ++ [(n, u)]))) := hide (by rw [flat_append]; simpa [flat_cons, flat_nil] using hown2)
  clear hown2 hgrow hg0
  go_wp2
  go_ret2
  exact ⟨v2, rfl, HO2.out, HB40.out⟩
end Go.Proofs.YtjbpkmmpbhngbaaGreatDoor
